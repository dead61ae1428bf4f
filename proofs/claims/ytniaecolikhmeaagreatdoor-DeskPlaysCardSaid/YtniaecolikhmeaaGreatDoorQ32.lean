/- Texts of the claim, joined. -/
import Derived.Test.YtniaecolikhmeaaGreatDoorQ20
import Derived.Test.YtniaecolikhmeaaGreatDoorQ30
set_option maxHeartbeats 20000000
set_option maxRecDepth 100000
set_option linter.all false
namespace Wh
open Go Go.RowKit Go.Shelf Go.Proofs Tryz
section
attribute [local go_sem] aV jF iY jI
def qW(s:aI)(i k:Nat):List eX:=(s.aA.take k).filter λh=>decide (h.aC≠(i:Int))
theorem jaG{s:aI}{i k:Nat}(hk:k<s.aA.length)(h:(hold s.aA k).aC≠(i:Int)):qW s i (k+1)=qW s i k++[hold s.aA k]:=by
 unfold qW;rw[iZ hk]at h ⊢
 exact IY hk _ (by simpa using h)
theorem jch{s:aI}{i k:Nat}(hk:k<s.aA.length)(h:(hold s.aA k).aC=(i:Int)):qW s i (k+1)=qW s i k:=by
 unfold qW;rw[iZ hk]at h
 exact Gf hk _ (by simpa using h)
theorem jaI(s:aI)(i:Nat):qW s i s.aA.length=s.aA.filter λh=>decide (h.aC≠(i:Int)):=by unfold qW;rw[dR]
theorem jaH(s:aI)(i k:Nat):(qW s i k).length<=s.aA.length:=by
 unfold qW;have h1:=kR (λh:eX=>decide (h.aC≠(i:Int))) (s.aA.take k)
 rw[bC]at h1
 omega
def jbM(s:aI)(l:List eX):aI:={s with aA:=l}
theorem jgM(w:World)(v vs:Value)(p:dG)(s:aI)(o:Int)(hp:kK w w v p)(hv:kG w w vs s):
  Calls prog 75 #[v,vs,o] w (nN (Ad p s o) w):=by
 obtain⟨Ab,cb,As,cs,rfl,hP',hBn,hSz,hlb,hls⟩:=o9 hp;obtain⟨A0,c0,A1,c1,A2,c2,A3,c3,A4,c4,A5,c5,A6,c6,rfl,hV,hN,hO,hH,hM,hI,hU,hX,hl0,hl1,hl2,hl3,hl4,hl5,Jb⟩:=lY hv;go_enter func75,ntmps75
 go_wp2_with fail;obtain⟨W0,hW0,hb0,kX,um,hsE,hK,hR⟩:=yS w p s Ab cb As cs A0 c0 A1 c1 A2 c2 A3 c3 A4 c4 A5 c5 A6 c6;rw[hW0];clear hW0;obtain⟨⟨y0,y1⟩,x0,x1,x2,x3,x4,x5,x6,fB,fC⟩:=hK.O W0 (aj W0 W0);go_wp2_with fail;clear y0 y1 x0 x1 x2 x3 x4 x5 x6 fB fC;refine(BD _ _ _ p s (hP'.O _ hb0) (hV.O _ hb0)).mono ?_
 rintro e W1 ⟨rfl,h1⟩;have hB1:=fD hb0 h1;obtain⟨⟨y0,y1⟩,x0,x1,x2,x3,x4,x5,x6,fB,fC⟩:=hK.O W1 (h1);by_cases hc:aO p s=0
 ·have hc':=ah hc;have hsn:=ah (gB.1 hc).1;have h4:=hsn.O.nX;rw[hc];clear hc;have hw4:IntKind.i64.wrap ((s.ak.length:Int) - 1)=(s.ak.length:Int) - 1:=aP _ (by omega)
  cases g1:dM o 0 ((s.ak.length:Int) - 1)
  ·have dw:=ah (PI (o:=o) hc'.O (by have:=mY.1 g1;omega))
   go_wp2_with fail;refine(F9 g1 _).mono ?_
   rintro e w' ⟨rfl,rfl⟩;clear g1;have fH:=hR.O _ h1;go_wp2_with (refine dU (.tmp 6) (.tmp 26) dV dV rfl fH rfl rfl (λw9 dS jg=>?_))
   have eF:=Below.gV hB1 jg;go_wp2_with fail;exact jl results75 dS rfl rfl (jJ dw.O eF)
  have g1':=dZ.1 g1;obtain⟨i,rfl⟩:∃i:Nat,o=i:=⟨o.toNat,by omega⟩
  have hi:i<s.ak.length:=by omega
  have hi':(i:Int)<s.ak.length:=by omega
  go_wp2_with fail;refine(F9 g1 _).mono ?_
  rintro e w' ⟨rfl,rfl⟩;clear g1 g1' hw4;obtain⟨Al,cl,ol,ll,d0,d1,hsl⟩:=(hO.O W1 hB1).aC hi;change W1.cell? _=some (Value.int IntKind.i64 (s.aC i).eH)at d0
  by_cases hk:(s.aC i).eH=2
  ·have dw:=ah (Vd hc'.O hi hk);rw[hk]at d0
   clear hk;have fH:=hR.O _ h1;go_wp2_with (refine dU (.tmp 6) (.tmp 34) dV dV rfl fH rfl rfl (λw9 dS jg=>?_))
   have eF:=Below.gV hB1 jg;go_wp2_with fail;exact jl results75 dS rfl rfl (jJ dw.O eF)
  have dw:=ah (jac hc'.O hi hk);have hq:((s.aC i).eH==2)=false:=by simpa using hk
  clear hk;go_wp2_with fail;clear y0 y1 x0 x1 x2 x3 x4 x5 x6 fB fC;clear d0 d1 hsl hq;refine(FM _ _ p s (hV.O _ hB1) hsn.O).mono ?_
  rintro e W5 ⟨_,rfl,⟨V5,rfl,DC⟩,h5⟩;have rU:=(DC).one;have zV:=Dj (W5);go_wp2_with (refine dU (.tmp 9) (.tmp 36) dV V5 rfl zV rfl rU (λw6 nK Jv=>?_);refine bD ?_)
  unfold Hid;have vG:=xg Jv;have x9:=nK.lt;clear rU zV Jv;have hx6:=ah (Bx.of nK (DC.below vG));have h06:=h1.trans ((fD h5 vG).mono h1.size);have hle:w.heap.size<=W1.heap.size:=hB1.size;have hle0:W0.heap.size<=W1.heap.size:=h1.size;have Bl:W1.heap.size<=W5.heap.size:=h5.size;clear nK DC vG h5 x9 h1 hB1;generalize W1.heap.size=aT at hx6 hle hle0 Bl
  generalize W5.heap.size=bx at hx6 Bl ⊢
  obtain⟨Ao,co,TM⟩:=hx6.O.own.IB;have H7:=ah TM;clear TM;have h72:=qH hsn.O.aA;go_wp2_with (refine Jm rfl (.tmp 37) (.const (nS)) rfl rfl none 0 0 (V:=V5) (V':={V5 with aA:=nS}) (s':={s with aA:=[]}) (cs:=[]) (b:=bx) (by rw[jd];exact hx6.O.vw.blk) (hx6.O.own.jiL (aj _ _) Own.nil) Yi rfl rfl rfl (λw8 MC BX=>?_);refine bD ?_)
  unfold Hid;have BG:=h06.trans (BX.below (B:=W0.heap.size) (λq hq=>by omega) h06.size)
  have MC:Bx w8 aT bx 40 [] {V5 with aA:=nS} (jbM s (qW s i 0)):=MC
  have wJ:=ah MC;clear MC BX hx6 h06;go_wp2_with fail;go_loopw[10] (λj wr=>∃(k:Nat) (V:SV),V={V5 with aA:=V.aA}/\k<=s.aA.length/\j=.int .i64 k/\Bx wr aT bx 40 [] V (jbM s (qW s i k))/\Below W0.heap.size W0 wr) (λj _=>s.aA.length - (RowKit.intOf j).toNat)
  case atStart=>exact⟨0,_,rfl,aN _,rfl,wJ.O,BG⟩
  case round=>
   clear wJ BG;obtain⟨k,V,ZP,hkl,rfl,hx,h0⟩:=hrel;have hx':=ah hx;have LQ:=ah ZP;clear hx ZP;obtain⟨⟨y0,y1⟩,x0,x1,x2,x3,x4,x5,x6,fB,fC⟩:=hK.O wr (h0);by_cases hkt:k<s.aA.length
   ·have hki:(k:Int)<(s.aA.length:Int):=by omega
    have hB0:=fD hb0 h0;obtain⟨joo,Un,q0,q1,q2,q3⟩:=(hH.O wr hB0).at_.hold hkt;by_cases hne:(hold s.aA k).aC=(i:Int)
    ·have hq:((hold s.aA k).aC !=(i:Int))=false:=by simpa using hne
     have hx2:=ah (show Bx wr aT bx 40 [] V (jbM s (qW s i (k+1)))by rw[jch hkt hne];exact hx'.O)
     clear hne;go_wp2_with fail;go_roundw
     case rel=>exact⟨k+1,V,LQ.O,by omega,by go_num,hx2.O,h0⟩
     case measure=>simp[dY];omega
    ·have hq:((hold s.aA k).aC !=(i:Int))=true:=by simpa using hne
     have hyes:=ah (jaG hkt hne);have hol:=ah (jaH s i k);obtain⟨Ah,ch,hvh⟩:=hx'.O.own.aA.isSlice;have ji9:=ah (show V.aA=.slice Ah (qW s i k).length ch from hvh)
     have wK:=ah (λr (hr:V.aA.ownBlock=some r)=>hx'.O.own.aA.size r hr)
     have hbs:aT<=wr.heap.size:=by have:=hx'.O.lt;omega
     have hTB:=ah (λw' (hT:wr.grownBy w' V.aA.ownBlock)=>(h0.grown hT h0.size (λr hr=>by have:=(wK.O r hr).1;omega):Below W0 W0 w'))
     have J9:=ah (show some bx≠V.aA.ownBlock from λhe=>by
      rcases hx'.O.own.aA.qy hx'.O.vw.blk (by decide)with h|h
      ·rw[h]at he;cases he
      ·exact h he.symm)
     have hnew:=ah (λg (hg:wr.heap.size<=g)=>(show some g≠V.aA.ownBlock from λhe=>by have:=(wK.O g he.symm).2;omega))
     have hh4:=ah (λw' (hB:Below W0 W0 w')=>(show _ from(hH.O w' (fD hb0 hB)).at_.hold hkt))
     have jnf:=ah joo;clear hne hvh;go_wp2_with fail;clear y0 y1 x0 x1 x2 x3 x4 x5 x6 fB fC;clear q0 q1 q2 q3 hq Un joo;refine AQ 10 (λw'=>wr.grownBy w' V.aA.ownBlock) (λw'=>Below wr wr w') (λw1 w2=>w1.grownBy w2 V.aA.ownBlock) 8 [
      λg _=>g 53=.pointer (some ⟨bx,2,none⟩),λg _=>g 54=.slice Ah (qW s i k).length ch,λg _=>g 55=.pointer (some ⟨w.heap.size+1,2,none⟩),λg _=>g 56=.slice A2 s.aA.length c2,λg _=>g 57=k,λg _=>g 58=.pointer (some ⟨iH A2,l9 A2+k*4,none⟩),λg _=>g 59=.agg (Vh (hold s.aA k)),λg w'=>(λv w'=>∃b,v=.slice (some ⟨b,0,none⟩) 1 1/\wr.heap.size<=b/\iJ w' b 116 [.int .i64 (hold s.aA k).aC,.int .i64 (hold s.aA k).aK,.int .i64 (hold s.aA k).bin,.int .i64 (hold s.aA k).n]) (g 60) w',λg w'=>Own iD 4 116 w' aT (g 61) (qW s i k++[hold s.aA k]),λg _=>g 62=.pointer (some ⟨bx,2,none⟩)] (by kernel_rfl) (by kernel_rfl) rfl (by kernel_rfl)
      (λw1 w2 h hb=>BH h (kW hb)) (λw1 w2 h h'=>BH h h') (λw1 w2 h hb=>fD h hb) (kW (aj _ _).drew) (aj _ _).drew ?_ (λf w2 hT hR=>?_)
     ·simp only[aG,aS];refine fQ.v (λg w' hT ho hd=>?_) ?_
      ·have e1:=ho 9 rfl;go_simp
      refine fQ.v (λg w' hT ho hd=>?_) ?_
      ·have e1:_=_:=hd.d 0;have y1:=(hx'.O.vw.grown hT J9.O).cells.2.2.1;rw[ji9.O]at y1
       go_simp
      refine fQ.v (λg w' hT ho hd=>?_) ?_
      ·have e1:=ho 4 rfl;go_simp
      refine fQ.v (λg w' hT ho hd=>?_) ?_
      ·have e1:_=_:=hd.d 2;obtain⟨⟨y0,y1⟩,x0,x1,x2,x3,x4,x5,x6,fB,fC⟩:=hK.O w' (hTB.O w' hT);go_simp
      refine fQ.v (λg w' hT ho hd=>?_) ?_
      ·have e1:=ho 10 rfl;go_simp
      refine fQ.v (λg w' hT ho hd=>?_) ?_
      ·have e1:_=_:=hd.d 3;have e2:_=_:=hd.d 4;have joo:=jnf.O;go_simp
      refine fQ.v (λg w' hT ho hd=>?_) ?_
      ·have e1:_=_:=hd.d 5;obtain⟨_,_,q0,q1,q2,q3⟩:=hh4.O w' (hTB.O w' hT);go_simp
      refine fQ.cons (CW.one (d:=60) (p:=λv w'=>∃b,v=.slice (some ⟨b,0,none⟩) 1 1/\wr.heap.size<=b/\iJ w' b 116 [.int .i64 (hold s.aA k).aC,.int .i64 (hold s.aA k).aK,.int .i64 (hold s.aA k).bin,.int .i64 (hold s.aA k).n]) rfl rfl (by decide) (λv w1 w2 h hb=>h.elim λb h=>⟨b,h.1,h.2.1,h.2.2.below hb h.2.2.lt⟩) (λv w1 w2 h hb=>h.elim λb h=>⟨b,h.1,h.2.1,h.2.2.grown hb (hnew.O b h.2.1)⟩) (λg w' hT ho hd=>?_)) ?_
      ·have e1:_=_:=hd.d 6;unfold iq;go_simp
       exact⟨⟨hT.size,iJ.new _ _ _⟩,(aj _ _).alloc (ay _) _⟩
      refine fQ.cons ⟨λg w1 w2 h hb=>h.below hb,λhne=>absurd rfl hne,λg g' w1 he h=>?_,λg w' hT hJ ho hd=>?_⟩ ?_
      ·have e61:=he 8 _ 61 (.self 8) rfl rfl;simp only[e61]at h
       exact h
      ·have e1:_=_:=hd.d 1;obtain⟨gb,e3,hgb,Dz⟩:∃b,g 60=.slice (some ⟨b,0,none⟩) 1 1/\wr.heap.size<=b/\iJ w' b 116 [.int .i64 (hold s.aA k).aC,.int .i64 (hold s.aA k).aK,.int .i64 (hold s.aA k).bin,.int .i64 (hold s.aA k).n]:=hd.d 7;have mQ:Own iD 4 116 w' aT V.aA (qW s i k):=hx'.O.own.aA.below (hJ (.inl rfl));have hol1:=hol.O;obtain⟨ii,hi,hz,MG,hbytes⟩:=yJ;obtain⟨v',w3,hr,hown3,hg3,_,_⟩:=run_append_own_at (P:=prog) w' aT 37 37 116 ii _ 4 32 underlying37 hi hz MG hbytes rfl (by decide) V.aA _ _ mQ gb 1 1 (iD (hold s.aA k)) rfl
        (λj u hj=>by rw[gy,fM];exact Dz.cell hj) (zQ _) (by unfold maxLen;omega) (by omega) (aU hbs hT.size)
       rw[ji9.O]at hr
       unfold iq;simp only[execOp,resolve,invoke,builtin,jF,e1,e3,iP,jc,gY,kC,dJ,lD,hr];refine⟨?_,.inr ⟨trivial,hg3⟩⟩
       have h2:Own iD 4 116 w3 aT v' (qW s i k++[hold s.aA k]):=by
        unfold Own;rw[aX,gQ];simpa using hown3
       simpa[xB,upd]using h2
      refine fQ.v (λg w' hT ho hd=>?_) ?_
      ·have e1:=ho 9 rfl;go_simp
      exact fQ.nil
     ·obtain⟨r0,r1,r2,r3,r4,r5,r6,⟨gb,r7,_,_⟩,hv,r9,_⟩:=hR;simp only[kP,qJ,aG,aS,bU,dH,bY,cO,dA,dL,aQ,bG,bH,r0,r1,r2,r3,r4,r5,r6,r7,r9];clear r0 r1 r2 r3 r4 r5 r6 r7 r9;rw[<- hyes.O]at hv
      obtain⟨Av,cv,hv7⟩:=hv.isSlice;rw[hv7]at hv
      simp only[hv7];have YU:=hx'.O.own.VW hT hv;have hb7:=hx'.O.vw.grown hT J9.O;have h07:=hTB.O w2 hT;clear hv7 hv;refine Jm rfl (.tmp 62) (.tmp 61) rfl rfl Av (qW s i (k+1)).length cv (V:=V) (cs:=[]) (b:=bx) (by rw[jd];exact hb7.blk) YU Yi rfl rfl rfl (λw8 MC BX=>?_)
      refine eP ?_
      have BG:=h07.trans (BX.below (B:=W0.heap.size) (λq hq=>by omega) h07.size)
      have wJ:=ah (show Bx w8 aT bx 40 [] {V with aA:=.slice Av (qW s i (k+1)).length cv} (jbM s (qW s i (k+1)))from MC)
      have hV8:=ah (show({V with aA:=.slice Av (qW s i (k+1)).length cv}:SV)={V5 with aA:=.slice Av (qW s i (k+1)).length cv}by rw[LQ.O])
      clear MC BX YU hb7 h07 hT hx' wK hTB J9 hnew hh4 jnf hyes hol;go_wp2_with fail;go_roundw
      case rel=>exact⟨k+1,_,hV8.O,by omega,by go_num,wJ.O,BG⟩
      case measure=>simp[dY];omega
   ·obtain rfl:k=s.aA.length:=by omega
    have hx7:=ah (show Bx wr aT bx 40 [] V (jbM s (s.aA.filter λh=>decide (h.aC≠(i:Int))))by rw[<- jaI];exact hx'.O)
    obtain⟨l7,hl7⟩:∃l7,(s.aA.filter λh=>decide (h.aC≠(i:Int)))=l7:=⟨_,rfl⟩
    have hfl:=ah hl7;rw[hl7]at hx7
    have jcO:=ah (show V.ak=.slice Ao s.ak.length co by rw[LQ.O];exact H7.O)
    clear hx' hl7 H7 LQ;obtain⟨go,_,_,eo,-⟩:=hx7.O.own.bK (o:=i) hi;rw[jcO.O]at eo
    injection eo with eo e2 e3
    subst eo;clear e2 e3;obtain⟨hgo,jhf,z0,z1⟩:=hx7.O.own.oQ (o:=i) hi jcO.O;have c1:=hx7.O.cells.2.1;rw[jcO.O]at c1
    go_wp2_with (refine Hf rfl (.tmp 67) (.const (.int .i64 2)) rfl rfl (i:=i) (q:=2) hx7.O hi jcO.O rfl rfl (λw9 Gq uQ=>?_);refine bD ?_)
    unfold Hid;clear y0 y1 x0 x1 x2 x3 x4 x5 x6 fB fC;have Gq:Bx w9 aT bx 40 [] V (GK s l7 i 0):=by rw[<- Yg];exact Gq
    have h09:=h0.trans (uQ.below (B:=W0.heap.size) (λq hq=>by omega) h0.size)
    have Eh:=ah Gq;clear uQ Gq z0 z1 c1 hx7 h0;have l13:=hsn.O.rE hi;obtain⟨gl,cl,e1,hgl⟩:=Eh.O.own.Ey (o:=i) (by rw[MR];exact hi) (by rw[F5 hi];omega)
    rw[F5 hi]at e1
    have e1':=ah e1;clear e1;go_wp2_with fail;go_loopw[11] (λj wr=>∃k:Nat,k<=(s.aC i).aH.length/\j=.int .i64 k/\Bx wr aT bx 40 [] V (GK s l7 i k)/\Below W0.heap.size W0 wr) (λj _=>(s.aC i).aH.length - (RowKit.intOf j).toNat)
    case atStart=>exact⟨0,aN _,rfl,Eh.O,h09⟩
    case round=>
     clear Eh h09;obtain⟨k,hkl,rfl,hx,h0⟩:=hrel;have hx':=ah hx;clear hx;have hon:i<(GK s l7 i k).ak.length:=by rw[MR];exact hi
     obtain⟨_,_,_,z1⟩:=hx'.O.own.oQ hon jcO.O;rw[e1'.O]at z1
     have c1:=hx'.O.cells.2.1;rw[jcO.O]at c1
     have jcS:=ah hon;clear hon;by_cases hkt:k<(s.aC i).aH.length
     ·have hki:(k:Int)<((s.aC i).aH.length:Int):=by omega
      have hkn:k<((GK s l7 i k).aC i).aH.length:=by rw[F5 hi];exact hkt
      obtain⟨YR,f0,f1,f2,f3⟩:=hx'.O.own.tJ jcS.O hkn e1'.O;rw[NU hi hkt]at f1 f2
      have hlr:=hsn.O.aK hi hkt;have hwr:IntKind.i64.wrap ((s.aK i k).jk - (s.aK i k).qI)=(s.aK i k).jk - (s.aK i k).qI:=by rw[jQ];omega
      have Xr:=ah hx'.O.drew;have hkn':=ah hkn;clear f0 f3 hlr hkn;go_wp2_with fail;go_still_tail 30,(by kernel_rfl)
      change wpList _ _ _ _ _ wr.drew;refine BO rfl (.tmp 108) (.tmp 106) rfl rfl (j:=3) (y:={s.aK i k with eU:=(s.aK i k).jk - (s.aK i k).qI}) Xr.O jcS.O hkn'.O e1'.O (by decide) (by rw[NU hi hkt];rfl) rfl rfl (λw9 Gq uQ=>?_)
      refine eP ?_
      rw[Yh hi hkt]at Gq
      have h09:=h0.drew.trans (uQ.below (B:=W0.heap.size) (λq hq=>by omega) h0.drew.size)
      have Eh:=ah Gq;clear uQ Gq z1 f1 f2 c1 hx' Xr hwr;go_wp2_with fail;go_roundw
      case rel=>exact⟨k+1,by omega,by go_num,Eh.O,h09⟩
      case measure=>simp[dY];omega
     ·obtain rfl:k=(s.aC i).aH.length:=by omega
      have hB0:=fD hb0 h0;have hx2:=ah (show Bx wr aT bx 40 [] V (yj s i)by rw[<- jad,hfl.O];exact hx'.O)
      have hvv:=jcO.O;clear hx' jcO e1';obtain⟨a0,a1,a2,a3,a4,a5,a6,a7,a8⟩:=V;obtain rfl:a1=.slice (some go) s.ak.length co:=hvv;have fH:=hR.O _ h0;obtain⟨b0,b1,b2,b3,b4,b5,b6⟩:=jB.cells hx2.O.vw;have lT:=dX.one hx2.O.own;go_wp2_with (refine dU (.tmp 6) (.tmp 109) dV (⟨a0,.slice (some go) s.ak.length co,a2,a3,a4,a5,a6,a7,a8⟩:SV) rfl fH rfl lT (λw9 dS jg=>?_))
      have wO:=dX.keptBy hx2.O.own jg fH;have eF:=Below.gV hB0 jg;clear b0 b1 b2 b3 b4 b5 b6;go_wp2_with fail;exact jl results75 dS rfl rfl (F7 dw.O (wO.from_ hle) eF)
 ·have hne:(aO p s !=0)=true:=by simpa using hc
  have dw:=ah (Yf (o:=o) hc);clear hc;have fH:=hR.O _ h1;go_wp2_with (refine dU (.tmp 6) (.tmp 17) dV dV rfl fH rfl rfl (λw9 dS jg=>?_))
  have eF:=Below.gV hB1 jg;go_wp2_with fail;exact jl results75 dS rfl rfl (jJ dw.O eF)
end
section
attribute [local go_sem] aV jF iY jI
theorem At.tail{w:World}{B g o:Nat}{xs ys:List Value}(h:At w B (some ⟨g,o,none⟩) (xs++ys)):At w B (some ⟨g,o+xs.length,none⟩) ys:=by
 intro hn;obtain⟨h1,h2,h3⟩:=h (by simp[hn])
 refine⟨⟨g,_,rfl⟩,h2,λj v hj=>?_⟩
 have:=h3 (xs.length+j) v (by rw[jO (by omega),Nat.add_sub_cancel_left];exact hj)
 rw[<- Nat.add_assoc]at this
 exact this
end
section
attribute [local go_sem] aV jF iY jI
def jaj(v:Value):Prop:=∃v0 v1 v2 A n c v4 v5 v6,v=.agg #[v0,v1,v2,.slice A n c,v4,v5,v6]/\n<=c
theorem jaj.at{v0 v1 v2 v4 v5 v6:Value}{A:Option Addr}{n c:Nat}(h:jaj (.agg #[v0,v1,v2,.slice A n c,v4,v5,v6])):n<=c:=by
 obtain⟨_,_,_,_,_,_,_,_,_,e,h⟩:=h;injection e with e
 simp only[Array.mk.injEq,List.cons.injEq,ni]at e
 obtain⟨_,_,_,e3,_⟩:=e;injection e3 with e1 e2 e3
 omega
theorem Ij(w:World)(aT:Nat)(v:Value)(l m:List Move)(mQ:Own oC 4 118 w aT v l)(g o c B:Nat)(hA:At w B (some ⟨g,o,none⟩) (m.flatMap oC))(hn:l.length+m.length<=1000)(wu:aT<=w.heap.size):
  ∃v' w',(Builtin.append_ #[38,38] 38 #[v,.slice (some ⟨g,o,none⟩) m.length c]).run prog w=.ok v' w'/\Own oC 4 118 w' aT v' (l++m)/\w.grownBy w' v.ownBlock/\Below aT w w':=by
 obtain⟨ii,hi,hz,MG,hbytes⟩:=Me;obtain⟨v',w3,hr,hown3,hg3,_,_⟩:=run_append_own_at (P:=prog) w aT 38 38 118 ii _ 4 32 underlying38 hi hz MG hbytes rfl (by decide) v _ _ mQ ⟨g,o,none⟩ m.length c (m.flatMap oC) (lU oC 4 (λ_=>rfl) m)
  (λj u hj=>by rw[gy];exact hA.cell hj) (λu hu=>by obtain⟨y,_,hy⟩:=oL.1 hu;exact P6 y u hy) (by unfold maxLen;omega) (by omega) wu
 refine⟨v',w3,hr,?_,hg3,(aj _ _).grown hg3 wu λk hk=>(qK mQ k hk).1⟩
 unfold Own;rw[aX,gQ];exact hown3
theorem At.head{w:World}{B:Nat}{A:Option Addr}{xs ys:List Value}(h:At w B A (xs++ys)):At w B A xs:=λhn=>by
 obtain⟨h1,h2,h3⟩:=h (by simp[hn])
 refine⟨h1,h2,λj v hj=>h3 j v ?_⟩
 rw[fE (by
  have:=(fA.1 hj).1
  exact this)]
 exact hj
theorem jis(w:World)(v vs:Value)(p:dG)(s:aI)(k n:Int)(hp:kK w w v p)(hv:kG w w vs s)(hcap:jaj vs):
  Calls prog 78 #[v,vs,k,n] w (nN (D6 p s k n) w):=by
 obtain⟨Ab,cb,As,cs,rfl,hP',hBn,hSz,hlb,hls⟩:=o9 hp;obtain⟨A0,c0,A1,c1,A2,c2,A3,c3,A4,c4,A5,c5,A6,c6,rfl,hV,hN,hO,hH,hM,hI,hU,hX,hl0,hl1,hl2,hl3,hl4,hl5,Jb⟩:=lY hv;go_enter func78,ntmps78
 go_wp2_with fail;obtain⟨W0,hW0,hb0,kX,um,hsE,hK,hR⟩:=yS w p s Ab cb As cs A0 c0 A1 c1 A2 c2 A3 c3 A4 c4 A5 c5 A6 c6;rw[hW0];clear hW0;have hc3:=hcap.at
 clear hcap;obtain⟨⟨y0,y1⟩,x0,x1,x2,x3,x4,x5,x6,fB,fC⟩:=hK.O W0 (aj W0 W0);go_wp2_with fail;clear y0 y1 x0 x1 x2 x3 x4 x5 x6 fB fC;refine(BD _ _ _ p s (hP'.O _ hb0) (hV.O _ hb0)).mono ?_
 rintro e W1 ⟨rfl,h1⟩;have hB1:=fD hb0 h1;obtain⟨⟨y0,y1⟩,x0,x1,x2,x3,x4,x5,x6,fB,fC⟩:=hK.O W1 (h1);by_cases hc:aO p s=0
 ·have hc':=ah hc;have hsn:=ah (gB.1 hc).1;rw[hc];clear hc;have h8:=hsn.O.uf;have hw4:IntKind.i64.wrap ((s.aF.length:Int) - 1)=(s.aF.length:Int) - 1:=aP _ (by omega)
  cases g1:dM k 0 ((s.aF.length:Int) - 1)
  ·have dw:=ah (Q8 (k:=k) (n:=n) hc'.O (by have:=mY.1 g1;omega))
   go_wp2_with fail;refine(F9 g1 _).mono ?_
   rintro e w' ⟨rfl,rfl⟩;clear g1;have fH:=hR.O _ h1;go_wp2_with (refine dU (.tmp 8) (.tmp 27) dV dV rfl fH rfl rfl (λw9 dS jg=>?_))
   have eF:=Below.gV hB1 jg;go_wp2_with fail;exact jl results78 dS rfl rfl (jJ dw.O eF)
  have g1':=dZ.1 g1;obtain⟨i,rfl⟩:∃i:Nat,k=i:=⟨k.toNat,by omega⟩
  have hk:i<s.aF.length:=by omega
  have hki:(i:Int)<(s.aF.length:Int):=by omega
  obtain⟨gd,sr,ds,mn,hxm⟩:∃gd sr ds mn,bZ s.aF i=⟨gd,sr,ds,mn⟩:=⟨_,_,_,_,rfl⟩;have hmv:=hsn.O.bZ hk;rw[hxm]at hmv
  simp only at hmv
  obtain⟨g,rfl⟩:∃g:Nat,gd=g:=⟨gd.toNat,by omega⟩
  obtain⟨a,rfl⟩:∃a:Nat,sr=a:=⟨sr.toNat,by omega⟩
  obtain⟨d,rfl⟩:∃d:Nat,ds=d:=⟨ds.toNat,by omega⟩
  have hgp:g<p.aW.length:=by omega
  have hap:a<p.dP.length:=by omega
  have hdp:d<p.dP.length:=by omega
  have had:a≠d:=by omega
  have hao:a<s.on.length:=by rw[hsn.O.sO];exact hap
  have hdo:d<s.on.length:=by rw[hsn.O.sO];exact hdp
  have hga:g<(fO s.on a).length:=by rw[hsn.O.rowLen hap];exact hgp
  have hgd:g<(fO s.on d).length:=by rw[hsn.O.rowLen hdp];exact hgp
  have hai:(a:Int)<(s.on.length:Int):=by omega
  have hdi:(d:Int)<(s.on.length:Int):=by omega
  have juM:(g:Int)<((fO s.on a).length:Int):=by omega
  have juK:(g:Int)<((fO s.on d).length:Int):=by omega
  have hca:=hsn.O.cell hap hgp;have hcd:=hsn.O.cell hdp hgp;have SS:=ah hxm;obtain⟨okm,lm,e0,e1,e2,e3⟩:=(hM.O W1 hB1).at_.move hk;rw[hxm]at e0 e1 e2 e3
  simp only at e0 e1 e2 e3
  have h1a:=h1.alloc h1.size (.cells #[g,a,d,mn] 118);have Vs:=hB1.alloc hB1.size (.cells #[g,a,d,mn] 118);clear hxm;go_wp2_with fail;refine(F9 g1 _).mono ?_
  rintro e w' ⟨rfl,rfl⟩;clear g1 g1' hw4;go_wp2_with fail;cases g3:dM n 0 mn
  ·have dw:=ah (OB (n:=n) hc'.O hk (by rw[SS.O];have:=mY.1 g3;simp only;omega))
   refine(F9 g3 _).mono ?_
   rintro e w' ⟨rfl,rfl⟩;clear g3;have fH:=hR.O _ h1a;go_wp2_with (refine dU (.tmp 8) (.tmp 38) dV dV rfl fH rfl rfl (λw9 dS jg=>?_))
   have eF:=Below.gV Vs jg;go_wp2_with fail;exact jl results78 dS rfl rfl (jJ dw.O eF)
  have g3':=dZ.1 g3;refine(F9 g3 _).mono ?_
  rintro e w' ⟨rfl,rfl⟩;clear g3;have Rw:=ah (iJ.new W1 118 #[g,a,d,mn]);obtain⟨Ar,cr,or0,UN,Zp,wK⟩:=(hN.O W1 hB1).row hdo;obtain⟨or1,lr1,RZ⟩:=wK.at_.int hgd;change W1.cell? _=some (.int .i64 (cell s.on d g))at RZ
  have hw0:IntKind.i64.wrap (cell s.on d g+n)=cell s.on d g+n:=aP _ (by omega)
  by_cases hm:200<cell s.on d g+n
  ·have dw:=ah (Xc (n:=n) hc'.O hk (by rw[SS.O];exact⟨by omega,by simp only;omega⟩) (by rw[SS.O];simp only[dn];exact hm))
   go_wp2_with fail;go_quiet (fail)
   have Rz:=below_drewN h1a nq;have hBd:=below_drewN Vs nq;clear y0 y1 x0 x1 x2 x3 x4 x5 x6 fB fC;clear e0 e1 e2 e3 okm lm or0 UN Zp wK or1 lr1 RZ Rw h1a Vs;generalize (W1.alloc (.cells #[g,a,d,mn] 118)).drewN nq=W4 at Rz hBd ⊢
   have fH:=hR.O _ Rz;go_wp2_with (refine dU (.tmp 8) (.tmp 52) dV dV rfl fH rfl rfl (λw9 dS jg=>?_))
   have eF:=Below.gV hBd jg;go_wp2_with fail;exact jl results78 dS rfl rfl (jJ dw.O eF)
  have hmd:=iE hm;have dw:=ah (jcs (n:=n) hc'.O ⟨hk,by omega,by rw[SS.O];simp only;omega,by rw[SS.O];simp only[dn];omega⟩)
  go_wp2_with fail;go_quiet (fail)
  have Rz:=below_drewN h1a nq;have hBd:=below_drewN Vs nq;have KG:=ah (Rw.O.below (below_drewN (aj _ _) nq) Rw.O.lt);clear y0 y1 x0 x1 x2 x3 x4 x5 x6 fB fC;clear e0 e1 e2 e3 okm lm or0 UN Zp wK or1 lr1 RZ Rw h1a Vs hw0 hmd;generalize W1.heap.size=wl at KG ⊢
  generalize (W1.alloc (.cells #[g,a,d,mn] 118)).drewN nq=W4 at Rz hBd KG ⊢
  obtain⟨⟨y0,y1⟩,x0,x1,x2,x3,x4,x5,x6,fB,fC⟩:=hK.O W4 (Rz);go_wp2_with fail;clear y0 y1 x0 x1 x2 x3 x4 x5 x6 fB fC;refine(FM _ _ p s (hV.O _ hBd) hsn.O).mono ?_
  rintro e W5 ⟨_,rfl,⟨V5,rfl,DC⟩,h5⟩;have rU:=(DC).one;have zV:=Dj (W5);go_wp2_with (refine dU (.tmp 12) (.tmp 54) dV V5 rfl zV rfl rU (λw6 nK Jv=>?_);refine bD ?_)
  unfold Hid;have vG:=xg Jv;have x9:=nK.lt;clear rU zV Jv;have h56:=fD h5 vG;have hx6:=ah (Bx.of nK (DC.below vG));have h06:=fD Rz h56;have x9:=ah (KG.O.below h56 KG.O.lt);have hlw:wl<W4.heap.size:=KG.O.lt;have hle:w.heap.size<=W4.heap.size:=hBd.size;have hle0:W0.heap.size<=W4.heap.size:=Rz.size;have Bl:W4.heap.size<=W5.heap.size:=h5.size;clear nK DC vG h5 KG Rz hBd h56;have juq:wl<w6.heap.size:=x9.O.lt;generalize W4.heap.size=aT at hx6 hle hle0 Bl hlw
  generalize W5.heap.size=bx at hx6 Bl ⊢
  have jfa:aT<=bx:=Bl;have hcd1:cell (pk1 s a g n).on d g=cell s.on d g:=by
   show cell (setCell s.on a g _) d g=_;rw[pU hao hga,au (by omega)]
  have hw1:IntKind.i64.wrap (cell s.on a g - n)=cell s.on a g - n:=aP _ (by omega)
  have hw2:IntKind.i64.wrap (cell s.on d g+n)=cell s.on d g+n:=aP _ (by omega)
  obtain⟨Jw,con,RS,gr,cr,cur,RJ,XB,OX,r0,er,XA,hbr,rc⟩:=hx6.O.own.QZ hao hga;have c0:=hx6.O.cells.1;rw[RJ]at c0
  have er':=ah er;clear RJ er OX hbr;have m0:=x9.O.cell (j:=0) rfl;have m1:=x9.O.cell (j:=1) rfl;go_wp2_with fail;go_still_tail 21,(by kernel_rfl)
  change wpList _ _ _ _ _ w6.drew;refine Ir rfl (.tmp 75) (.tmp 74) rfl rfl (i:=a) (g:=g) (q:=cell s.on a g - n) hx6.O.drew hao hga er'.O rfl rfl (λw7 hx7 Dy=>?_)
  refine eP ?_
  have h07:=h06.drew.trans (Dy.below (B:=W0.heap.size) (λq hq=>by omega) h06.drew.size)
  have zT:=ah (show Bx w7 aT bx 40 [] V5 (pk1 s a g n)from hx7)
  have Vr:=ah (Dy.blk (show iJ w6.drew wl 118 _ from x9.O) (by omega))
  clear hx7 Dy c0 r0 rc m0 m1 hw1 hx6 h06 er' x9;have je3:d<(pk1 s a g n).on.length:=by show d<(setCell _ _ _ _).length;rw[qj];exact hdo
  have hgd1:g<(fO (pk1 s a g n).on d).length:=by show g<(fO (setCell _ _ _ _) d).length;rw[uN];exact hgd
  obtain⟨Jw,con,RS,gr,cr,cur,RJ,XB,OX,r0,er,XA,hbr,rc⟩:=zT.O.own.QZ je3 hgd1;rw[hcd1]at rc
  have c0:=zT.O.cells.1;rw[RJ]at c0
  have hl1:(pk1 s a g n).on.length=s.on.length:=qj;have hl2:(fO (pk1 s a g n).on d).length=(fO s.on d).length:=uN;rw[hl1]at c0
  rw[hl2]at r0
  have er':=ah er;clear RJ er OX hbr hl1 hl2;have m0:=Vr.O.cell (j:=0) rfl;have m2:=Vr.O.cell (j:=2) rfl;go_wp2_with fail;go_still_tail 21,(by kernel_rfl)
  change wpList _ _ _ _ _ w7.drew;refine Ir rfl (.tmp 96) (.tmp 95) rfl rfl (i:=d) (g:=g) (q:=cell s.on d g+n) zT.O.drew je3 hgd1 er'.O rfl rfl (λw8 MC BX=>?_)
  refine eP ?_
  have BG:=h07.drew.trans (BX.below (B:=W0.heap.size) (λq hq=>by omega) h07.drew.size)
  have wJ:=ah (show Bx w8 aT bx 40 [] V5 (mv2 s a d g n)by unfold mv2;rw[hcd1];exact MC)
  clear MC BX c0 r0 rc m0 m2 hw2 zT h07 er' Vr je3 hgd1;have NJ:=fD hb0 BG;have jsH:=(hM.O w8 NJ).at_;obtain⟨⟨g3,o3,rfl⟩,_⟩:=jsH.move hk;have hMv:=ah (show ∀W,Below w8 w8 W->At W W.heap.size (some ⟨g3,o3,none⟩) (s.aF.flatMap oC)from λW hW=>(hM.O W (fD NJ hW)).at_)
  have hlt:(s.aF.take i).length=i:=by rw[bC];omega
  have hld:(s.aF.drop (i+1)).length=s.aF.length - (i+1):=jv;have hba:Below w8 w8 (w8.alloc (.cells #[] 118)).drew:=((aj _ _).alloc (ay _) _).drew;have hown0:Own oC 4 118 (w8.alloc (.cells #[] 118)).drew w8 (.slice (some w8) 0 0) []:=(Own.Xg w8 _ (ay _):Own oC 4 118 (w8.alloc (.cells #[] 118)) w8 (.slice (some w8) 0 0) []);obtain⟨v1,w1,hr1,yK,hg1,hb1⟩:=Ij _ w8.heap.size _ [] (s.aF.take i) hown0 g3 o3 c3 _ (At.head (ys:=(s.aF.drop i).flatMap oC) (by rw[<- gQ,jW];exact hMv.O _ hba)) (by rw[hlt];simp only[dQ];omega) hba.size
  rw[hlt]at hr1
  rw[fJ]at yK
  have h81:=hba.trans hb1;obtain⟨A1',c1',rfl⟩:=yK.isSlice;rw[hlt]at hr1 yK
  have I9:∃o7,At w1 w1 (some ⟨g3,o7,none⟩) ((s.aF.drop (i+1)).flatMap oC)/\(c3=i+1/\o7=o3\/¬c3=i+1/\o7=o3+(i+1)*4):=by
   by_cases hcq:c3=i+1
   ·refine⟨o3,?_,.inl ⟨hcq,rfl⟩⟩
    have:s.aF.drop (i+1)=[]:=Bz (by omega)
    rw[this];exact At.nil
   ·refine⟨o3+(i+1)*4,?_,.inr ⟨hcq,rfl⟩⟩
    have h2:=hMv.O _ h81;rw[<- jW (i+1) s.aF,gQ]at h2
    have h3:=h2.tail;rwa [lU oC 4 (λ_=>rfl),bC,jK (by omega)]at h3
  obtain⟨o7,hA7,I9⟩:=I9;obtain⟨v2,w2,hr2,AZ,hg2,hb2⟩:=Ij w1 w8 (.slice A1' i c1') (s.aF.take i) (s.aF.drop (i+1)) yK g3 o7 (c3 - (i+1)) _ hA7 (by rw[hlt,hld];omega) h81.size
  rw[hld]at hr2
  try rw[hlt]at hr2
  rw[<- nV]at AZ
  obtain⟨Uz,c2',rfl⟩:=AZ.isSlice;have h82:=h81.trans hb2;have h01:=fD BG h81;have h02:=fD BG h82;have hx2:=wJ.O.below h82;have hO2:=ah (show dX w2 aT {V5 with aF:=.slice Uz (s.aF.eraseIdx i).length c2'} {mv2 s a d g n with aF:=s.aF.eraseIdx i}from hx2.own.Xa (zo w2 _) (AZ.from_ (by have:=wJ.O.lt;omega)))
  have XI:=ah hx2.vw;have b3:w2.cell? ⟨bx,3,none⟩=some V5.aF:=hx2.cells.2.2.2.1;have f3:w2.frozen? ⟨bx,3,none⟩=false:=hx2.vw.blk.frozen 3;have hr1':=ah hr1;have hr2':=ah hr2;have q1:i<=c3:=by omega
  have q2:(i:Int)<=(c3:Int):=by omega
  have q3:(0:Int)<=(i:Int)+1:=by omega
  have q4:(i:Int)+1<=(s.aF.length:Int):=by omega
  have q5:((i:Int)+1).toNat=i+1:=by omega
  have q6:¬(c3=0):=by omega
  have q7:IntKind.i64.wrap ((i:Int)+1)=(i:Int)+1:=aP _ (by omega)
  have jvp:=ah h82;obtain⟨⟨y0,y1⟩,x0,x1,x2,x3,x4,x5,x6,fB,fC⟩:=hK.O w8 (BG);obtain⟨⟨y01,y11⟩,x01,x11,x21,x31,x41,x51,x61,jns,jnq⟩:=hK.O w1 (h01);obtain⟨⟨y02,y12⟩,x02,x12,x22,x32,x42,x52,x62,jnr,jnp⟩:=hK.O w2 (h02);clear hown0 yK AZ hr1 hr2 hA7 hx2 hg1 hg2 hb1 hb2 hba h81 h82 h01 jsH hlt hld wJ BG NJ;rcases I9 with⟨hcq,I9⟩|⟨hcq,I9⟩
  ·subst I9;have je6:(c3=i+1)=True:=eq_true hcq;clear hcq;go_wp2_with fail;go_region_law (first|refine sH _ rfl (.tmp 97) (.tmp 101) 38 38 rfl (.slice (some w8) 0 0) (.slice (some ⟨g3,o7,none⟩) i c3) (by simp[Act.eval,Act.put]) (by simp[Act.eval,Act.put]) hr1'.O ?_|refine sH _ rfl (.tmp 102) (.tmp 107) 38 38 rfl (.slice A1' i c1') (.slice (some ⟨g3,o7,none⟩) (s.aF.length - (i+1)) (c3 - (i+1))) (by simp[Act.eval,Act.put]) (by simp[Act.eval,Act.put]) hr2'.O ?_)
   all_goals
    clear y0 y1 x0 x1 x2 x3 x4 x5 x6 fB fC;clear y01 y11 x01 x11 x21 x31 x41 x51 x61 jns jnq;clear y02 y12 x02 x12 x22 x32 x42 x52 x62 jnr jnp;clear b3 f3 q1 q2 q3 q4 q5 q6 q7;obtain⟨AX,IK⟩:=Bx.set' (V:=V5) (V':={V5 with aF:=.slice Uz (s.aF.eraseIdx i).length c2'}) (s':={mv2 s a d g n with aF:=s.aF.eraseIdx i}) (rest:=[]) (by rw[jd];exact XI.O.blk) hO2.O Yi 3 (.slice Uz (s.aF.eraseIdx i).length c2') rfl
    have sQ:=ah (show Bx (w2.setCell ⟨bx,3,none⟩ (.slice Uz (s.aF.eraseIdx i).length c2')) aT bx 40 [] {V5 with aF:=.slice Uz (s.aF.eraseIdx i).length c2'} (BR s i n)by rw[<- Xb SS.O];exact AX)
    have h010:=sV h02 IK h02.size (λk hk=>by injection hk with hk;omega)
    clear AX IK XI hO2 hr1' hr2' je6;generalize w2.setCell ⟨bx,3,none⟩ (.slice Uz (s.aF.eraseIdx i).length c2')=w10 at sQ h010 ⊢
    have Oi:=fD hb0 h010;generalize ({V5 with aF:=.slice Uz (s.aF.eraseIdx i).length c2'}:SV)=V9 at sQ
    have fH:=hR.O _ h010;obtain⟨b0,b1,b2,b3,b4,b5,b6⟩:=jB.cells sQ.O.vw;have lT:=dX.one sQ.O.own;go_wp2_with (refine dU (.tmp 8) (.tmp 110) dV V9 rfl fH rfl lT (λw9 dS jg=>?_))
    have wO:=dX.keptBy sQ.O.own jg fH;have eF:=Below.gV Oi jg;clear b0 b1 b2 b3 b4 b5 b6;go_wp2_with fail;exact jl results78 dS rfl rfl (F7 dw.O (wO.from_ hle) eF)
  ·subst I9;have je6:=hcq;clear hcq;go_wp2_with fail;go_region_law (first|refine sH _ rfl (.tmp 97) (.tmp 101) 38 38 rfl (.slice (some w8) 0 0) (.slice (some ⟨g3,o3,none⟩) i c3) (by simp[Act.eval,Act.put]) (by simp[Act.eval,Act.put]) hr1'.O ?_|refine sH _ rfl (.tmp 102) (.tmp 107) 38 38 rfl (.slice A1' i c1') (.slice (some ⟨g3,o3+(i+1)*4,none⟩) (s.aF.length - (i+1)) (c3 - (i+1))) (by simp[Act.eval,Act.put]) (by simp[Act.eval,Act.put]) hr2'.O ?_)
   all_goals
    clear y0 y1 x0 x1 x2 x3 x4 x5 x6 fB fC;clear y01 y11 x01 x11 x21 x31 x41 x51 x61 jns jnq;clear y02 y12 x02 x12 x22 x32 x42 x52 x62 jnr jnp;clear b3 f3 q1 q2 q3 q4 q5 q6 q7;obtain⟨AX,IK⟩:=Bx.set' (V:=V5) (V':={V5 with aF:=.slice Uz (s.aF.eraseIdx i).length c2'}) (s':={mv2 s a d g n with aF:=s.aF.eraseIdx i}) (rest:=[]) (by rw[jd];exact XI.O.blk) hO2.O Yi 3 (.slice Uz (s.aF.eraseIdx i).length c2') rfl
    have sQ:=ah (show Bx (w2.setCell ⟨bx,3,none⟩ (.slice Uz (s.aF.eraseIdx i).length c2')) aT bx 40 [] {V5 with aF:=.slice Uz (s.aF.eraseIdx i).length c2'} (BR s i n)by rw[<- Xb SS.O];exact AX)
    have h010:=sV h02 IK h02.size (λk hk=>by injection hk with hk;omega)
    clear AX IK XI hO2 hr1' hr2' je6;generalize w2.setCell ⟨bx,3,none⟩ (.slice Uz (s.aF.eraseIdx i).length c2')=w10 at sQ h010 ⊢
    have Oi:=fD hb0 h010;generalize ({V5 with aF:=.slice Uz (s.aF.eraseIdx i).length c2'}:SV)=V9 at sQ
    have fH:=hR.O _ h010;obtain⟨b0,b1,b2,b3,b4,b5,b6⟩:=jB.cells sQ.O.vw;have lT:=dX.one sQ.O.own;go_wp2_with (refine dU (.tmp 8) (.tmp 110) dV V9 rfl fH rfl lT (λw9 dS jg=>?_))
    have wO:=dX.keptBy sQ.O.own jg fH;have eF:=Below.gV Oi jg;clear b0 b1 b2 b3 b4 b5 b6;go_wp2_with fail;exact jl results78 dS rfl rfl (F7 dw.O (wO.from_ hle) eF)
 ·have hne:(aO p s !=0)=true:=by simpa using hc
  have dw:=ah (ZA (k:=k) (n:=n) hc);clear hc;have fH:=hR.O _ h1;go_wp2_with (refine dU (.tmp 8) (.tmp 18) dV dV rfl fH rfl rfl (λw9 dS jg=>?_))
  have eF:=Below.gV hB1 jg;go_wp2_with fail;exact jl results78 dS rfl rfl (jJ dw.O eF)
end
end Wh
