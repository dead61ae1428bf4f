/- Texts of the claim, joined. -/
import Derived.Test.YtniaecolikhmeaaGreatDoorQ15
set_option maxHeartbeats 20000000
set_option maxRecDepth 100000
set_option linter.all false
namespace Wh
open Go Go.RowKit Go.Shelf Go.Proofs Tryz
section
attribute [local go_sem] aV
theorem Xk(s:aI)(o k:Nat)(h:0<=kept s.aA o k):
  (((s.aC o).eH==0)=true/\((s.aC o).eH !=0)=false/\((s.aC o).eH==2)=false/\((s.aK o k).qI+(s.aK o k).eU+kept s.aA o k !=0)=true/\mO s o k=false)\/
  (((s.aC o).eH==0)=true/\((s.aC o).eH !=0)=false/\((s.aC o).eH==2)=false/\((s.aK o k).qI+(s.aK o k).eU+kept s.aA o k !=0)=false/\mO s o k=true)\/
  (((s.aC o).eH==0)=false/\((s.aC o).eH !=0)=true/\((s.aK o k).qI+(s.aK o k).eU+kept s.aA o k !=(s.aK o k).jk)=true/\mO s o k=false)\/
  (((s.aC o).eH==0)=false/\((s.aC o).eH !=0)=true/\((s.aK o k).qI+(s.aK o k).eU+kept s.aA o k !=(s.aK o k).jk)=false/\((s.aC o).eH==2)=true/\(kept s.aA o k !=0)=true/\mO s o k=false)\/
  (((s.aC o).eH==0)=false/\((s.aC o).eH !=0)=true/\((s.aK o k).qI+(s.aK o k).eU+kept s.aA o k !=(s.aK o k).jk)=false/\((s.aC o).eH==2)=true/\(kept s.aA o k !=0)=false/\mO s o k=true)\/
  (((s.aC o).eH==0)=false/\((s.aC o).eH !=0)=true/\((s.aK o k).qI+(s.aK o k).eU+kept s.aA o k !=(s.aK o k).jk)=false/\((s.aC o).eH==2)=false/\mO s o k=true):=by
 unfold mO;have h3:0<kept s.aA o k↔¬kept s.aA o k=0:=by omega
 by_cases h0:(s.aC o).eH=0
 ·by_cases h1:(s.aK o k).qI+(s.aK o k).eU+kept s.aA o k=0<;>simp[h0,h1]
 ·by_cases h1:(s.aK o k).qI+(s.aK o k).eU+kept s.aA o k=(s.aK o k).jk<;>by_cases h2:(s.aC o).eH=2<;>by_cases h3':kept s.aA o k=0<;>simp[h0,h1,h2,h3,h3']<;>omega
def Lh(o:Order)(k:Nat):Bool:=(o.aH.take k).all λx=>decide (x.qI=x.jk)
theorem XM{o:Order}{k:Nat}(h:k<o.aH.length):Lh o (k+1)=(Lh o k&&decide ((fG o.aH k).qI=(fG o.aH k).jk)):=by
 unfold Lh;rw[bM h,List.all_append,qw h];simp
theorem ZR(o:Order):Lh o o.aH.length=pq o:=by unfold Lh pq;rw[dR]
theorem jlc(w:World)(v vs:Value)(p:dG)(s:aI)(hp:kK w w v p)(hv:kG w w vs s)(hs:pz p s):
  Calls prog 166 #[v,vs] w λe w'=>e=.returned (.bool (Fv p s))/\Below w w w':=by
 have hcnt:=hs.counts;have h4:=hs.nX;have h72:=qH hs.aA;have zU:=ah hs;clear hs;obtain⟨Ab,cb,As,cs,rfl,hP',hBn,hSz,hlb,hls⟩:=o9 hp;obtain⟨A0,c0,A1,c1,A2,c2,A3,c3,A4,c4,A5,c5,A6,c6,rfl,hV,hN,hO,hH,hM,hI,hU,hX,hl0,hl1,hl2,hl3,hl4,hl5,Jb⟩:=lY hv;go_enter func166,ntmps166
 go_wp2_with fail;obtain⟨W0,hW0,hb0,kX,um,hsE,hK⟩:=uT w p s Ab cb As cs A0 c0 A1 c1 A2 c2 A3 c3 A4 c4 A5 c5 A6 c6;rw[hW0];clear hW0;obtain⟨⟨y0,y1⟩,x0,x1,x2,x3,x4,x5,x6,fB,fC⟩:=hK.O W0 (aj W0 W0);go_loopw[5,6] (λi _ wr=>∃k:Nat,k<=p.aW.length/\i=.int .i64 k/\(∀j,j<k->xR p s j=true)/\Below W0.heap.size W0 wr) (λi _ _=>p.aW.length - (RowKit.intOf i).toNat)
 case atStart=>exact⟨0,aN _,rfl,λj hj=>by omega,aj _ _⟩
 case round=>
  clear y0 y1 x0 x1 x2 x3 x4 x5 x6 fB fC;obtain⟨k,hk,rfl,kQ,hbw⟩:=hrel;have hall':=ah kQ;clear kQ;have hB:=fD hb0 hbw;obtain⟨⟨y0,y1⟩,x0,x1,x2,x3,x4,x5,x6,fB,fC⟩:=hK.O wr (hbw);by_cases hlt:k<p.aW.length
  ·have hI4:k<s.jf.length:=by rw[zU.O.jf.1];exact hlt
   have hI5:k<s.O.length:=by rw[zU.O.O.1];exact hlt
   have ZQ:k<s.dB.length:=by rw[zU.O.dB.1];exact hlt
   obtain⟨i1,i2⟩:=zU.O.jf.2 hlt;obtain⟨u1,u2⟩:=zU.O.O.2 hlt;obtain⟨f1,f2⟩:=zU.O.dB.2 hlt;obtain⟨o4,l4,r4⟩:=(hI.O wr hB).at_.int hI4;obtain⟨o5,l5,r5⟩:=(hU.O wr hB).at_.int hI5;obtain⟨o6,l6,r6⟩:=(hX.O wr hB).at_.int ZQ;have q1:=λo d os=>cZ (w:=wr) (b:=w.heap.size+1) fB o d os
   have q4:=λo d os=>cZ (w:=wr) (b:=iH A4) l4 o d os
   have q5:=λo d os=>cZ (w:=wr) (b:=iH A5) l5 o d os
   have q6:=λo d os=>cZ (w:=wr) (b:=iH A6) l6 o d os
   have hN2:=ah (λd os=>hN.O _ (hB.trans ((kH wr d os).mono hB.size)))
   have hw1:IntKind.i64.wrap (aZ s.jf k - aZ s.O k)=aZ s.jf k - aZ s.O k:=aP _ (by omega)
   have hw2:IntKind.i64.wrap (aZ s.jf k - aZ s.O k+aZ s.dB k)=aZ s.jf k - aZ s.O k+aZ s.dB k:=aP _ (by omega)
   by_cases hsum:Du s.on k=aZ s.jf k - aZ s.O k+aZ s.dB k
   ·have hne:(Du s.on k !=aZ s.jf k - aZ s.O k+aZ s.dB k)=false:=by simpa using hsum
    have jjc:=ah hsum;clear hsum;go_wp2_with fail;refine dO (by kernel_rfl) (by kernel_rfl) ?_
    repeat(go_big_quiet_step ((go_at_call 206;refine yR (jiq _ _ p _ k (hN2.O _ _) zU.O.shelf hlt))))
    refine wpQuiet_nil ?_
    intro W2 hw';have hb2:=dN hw';clear hw';clear q1 q4 q5 q6 hw1 hw2 hne;clear y0 y1 x0 x1 x2 x3 x4 x5 x6 fB fC;have hbw2:=fD hbw hb2;have hB2:=fD hb0 hbw2;obtain⟨⟨y0,y1⟩,x0,x1,x2,x3,x4,x5,x6,fB,fC⟩:=hK.O W2 (hbw2);go_wp2_with fail;go_loopw[6] (λi wr=>∃m:Nat,m<=p.dP.length/\i=.int .i64 m/\(∀j,j<m->bound s j k<=cell s.on j k)/\Below W0.heap.size W0 wr) (λi _=>p.dP.length - (RowKit.intOf i).toNat)
    case atStart=>exact⟨0,aN _,rfl,λj hj=>by omega,hbw2⟩
    case round=>
     clear y0 y1 x0 x1 x2 x3 x4 x5 x6 fB fC;clear r4 r5 r6 hbw hB hb2 hbw2 hB2;obtain⟨m,hm,rfl,zW,hbw⟩:=hrel;have pR:=ah zW;clear zW;have hB:=fD hb0 hbw;obtain⟨⟨y0,y1⟩,x0,x1,x2,x3,x4,x5,x6,fB,fC⟩:=hK.O wr (hbw);by_cases hml:m<p.dP.length
     ·have hml':m<s.on.length:=by rw[zU.O.sO];exact hml
      have hkr:k<(fO s.on m).length:=by rw[zU.O.rowLen hml];exact hlt
      obtain⟨Ar,cr,or0,UN,Zp,wK⟩:=(hN.O wr hB).row hml';obtain⟨or1,lr1,RZ⟩:=wK.at_.int hkr;have q1:=λo d os=>cZ (w:=wr) (b:=w.heap.size+1) fB o d os
      have q2:=λo d os=>cZ (w:=wr) (b:=iH A0) UN o d os
      have q3:=λo d os=>cZ (w:=wr) (b:=iH Ar) lr1 o d os
      have hV2:=ah (λd os=>hV.O _ (hB.trans ((kH wr d os).mono hB.size)))
      have hcl:aZ (fO s.on m) k=cell s.on m k:=rfl;have hcl':=ah hcl;clear hcl;by_cases hbd:bound s m k<=cell s.on m k
      ·have hd:decide (aZ (fO s.on m) k<bound s m k)=false:=by rw[hcl'.O];simpa using hbd
       have jhi:=ah hbd;clear hbd;go_wp2_with fail;refine dO (by kernel_rfl) (by kernel_rfl) ?_
       repeat(go_big_quiet_step ((go_at_call 123;refine fV (jaz _ _ p s _ _ (hV2.O _ _) zU.O))))
       refine wpQuiet_nil ?_
       intro W2 hw';have hb2:=dN hw';clear hw';clear q1 q2 q3;go_wp2_with fail;go_roundw
       case rel=>
        refine⟨m+1,by omega,by go_num,λj hj=>?_,fD hbw hb2⟩
        rcases bf.1 hj with h|rfl
        ·exact pR.O j h
        ·exact jhi.O
       case measure=>simp[dY];omega
      ·have hd:decide (aZ (fO s.on m) k<bound s m k)=true:=by rw[hcl'.O];simpa using hbd
       have dw:=ah (KR hlt (O6 hml (show cell s.on m k<bound s m k by omega)))
       clear hbd;go_wp2_with fail;refine dO (by kernel_rfl) (by kernel_rfl) ?_
       repeat(go_big_quiet_step ((go_at_call 123;refine fV (jaz _ _ p s _ _ (hV2.O _ _) zU.O))))
       refine wpQuiet_nil ?_
       intro W2 hw';have hb2:=dN hw';clear hw';clear q1 q2 q3;go_wp2_with fail;go_ret
       exact⟨gK (by rw[dw.O]),fD hB hb2⟩
     ·obtain rfl:m=p.dP.length:=by omega
      go_wp2_with fail;go_roundw
      case rel=>
       refine⟨k+1,by omega,by go_num,λj hj=>?_,hbw⟩
       rcases bf.1 hj with h|rfl
       ·exact hall'.O j h
       ·exact yO.2 ⟨jjc.O,pR.O⟩
      case measure=>simp[dY];omega
   ·have hne:(Du s.on k !=aZ s.jf k - aZ s.O k+aZ s.dB k)=true:=by simpa using hsum
    have dw:=ah (KR hlt (O5 hsum));clear hsum;go_wp2_with fail;refine dO (by kernel_rfl) (by kernel_rfl) ?_
    repeat(go_big_quiet_step ((go_at_call 206;refine yR (jiq _ _ p _ k (hN2.O _ _) zU.O.shelf hlt))))
    refine wpQuiet_nil ?_
    intro W2 hw';have hb2:=dN hw';clear hw';clear q1 q4 q5 q6 hw1 hw2 hne;go_wp2_with fail;go_ret
    exact⟨gK (by rw[dw.O]),fD hB hb2⟩
  ·obtain rfl:k=p.aW.length:=by omega
   go_wp2_with fail;go_loopw[7,8,9,10,11,12,13] (λi _ _ _ _ _ _ wr=>∃k:Nat,k<=s.ak.length/\i=.int .i64 k/\(∀j,j<k->wZ s j=true)/\Below W0.heap.size W0 wr) (λi _ _ _ _ _ _ _=>s.ak.length - (RowKit.intOf i).toNat)
   case atStart=>exact⟨0,aN _,rfl,λj hj=>by omega,hbw⟩
   case round=>
    clear y0 y1 x0 x1 x2 x3 x4 x5 x6 fB fC;clear hbw hB;obtain⟨k,hk,rfl,jc7,hbw⟩:=hrel;have Ry:=ah jc7;clear jc7;have hB:=fD hb0 hbw;obtain⟨⟨y0,y1⟩,x0,x1,x2,x3,x4,x5,x6,fB,fC⟩:=hK.O wr (hbw);by_cases hlt:k<s.ak.length
    ·obtain⟨A',c',I8,Gv,d0,d1,hsl⟩:=(hO.O wr hB).aC hlt;obtain⟨l1,l3⟩:=zU.O.rE hlt;change 1<=(bK s.ak k).aH.length at l1
     change(bK s.ak k).aH.length<=3 at l3
     go_wp2_with fail;go_loopw[8,9] (λb i wr=>∃m:Nat,m<=(bK s.ak k).aH.length/\i=.int .i64 m/\b=.bool (Lh (bK s.ak k) m)/\Below W0.heap.size W0 wr) (λ_ i _=>(bK s.ak k).aH.length - (RowKit.intOf i).toNat)
     case atStart=>exact⟨0,aN _,rfl,rfl,hbw⟩
     case round=>
      clear y0 y1 x0 x1 x2 x3 x4 x5 x6 fB fC;clear hbw hB I8 Gv d0 d1 hsl;obtain⟨m,hm,rfl,rfl,hbw⟩:=hrel;have hB:=fD hb0 hbw;obtain⟨⟨y0,y1⟩,x0,x1,x2,x3,x4,x5,x6,fB,fC⟩:=hK.O wr (hbw);obtain⟨A',c',I8,Gv,d0,d1,hsl⟩:=(hO.O wr hB).aC hlt;by_cases hml:m<(bK s.ak k).aH.length
      ·obtain⟨hok2,Qs,e0,e1,e2,e3⟩:=hsl.at_.aK hml;have hsu:=XM hml;cases hg:Lh (bK s.ak k) m
       ·rw[hg,vZ]at hsu
        have jjd:=ah hsu;clear hsu hg;go_wp2_with fail;go_quiet (fail)
        go_wp2_with fail;go_roundw
        case rel=>exact⟨m+1,by omega,by go_num,by rw[jjd.O],below_drewN hbw _⟩
        case measure=>simp[dY];omega
       ·rw[hg,lQ]at hsu
        by_cases hgw:(fG (bK s.ak k).aH m).qI=(fG (bK s.ak k).aH m).jk
        ·have hq:((fG (bK s.ak k).aH m).qI==(fG (bK s.ak k).aH m).jk)=true:=by simpa using hgw
         rw[oD hgw]at hsu
         have jjd:=ah hsu;clear hsu hg hgw;go_wp2_with fail;go_quiet (fail)
         go_wp2_with fail;go_roundw
         case rel=>exact⟨m+1,by omega,by go_num,by rw[jjd.O],below_drewN hbw _⟩
         case measure=>simp[dY];omega
        ·have hq:((fG (bK s.ak k).aH m).qI==(fG (bK s.ak k).aH m).jk)=false:=by simpa using hgw
         rw[iE hgw]at hsu
         have jjd:=ah hsu;clear hsu hg hgw;go_wp2_with fail;go_quiet (fail)
         go_wp2_with fail;go_roundw
         case rel=>exact⟨m+1,by omega,by go_num,by rw[jjd.O],below_drewN hbw _⟩
         case measure=>simp[dY];omega
      ·obtain rfl:m=(bK s.ak k).aH.length:=by omega
       rw[ZR];cases hag:pq (bK s.ak k)
       ·have hng:=ah (show ¬((s.aC k).eH=1/\pq (s.aC k)=true)by unfold aI.aC;rw[hag];simp)
        clear hag;go_wp2_with fail;go_loopw[10,11,12,13] (λi _ _ _ wr=>∃m:Nat,m<=(bK s.ak k).aH.length/\i=.int .i64 m/\(∀j,j<m->mO s k j=true)/\Below W0.heap.size W0 wr) (λi _ _ _ _=>(bK s.ak k).aH.length - (RowKit.intOf i).toNat)
        case atStart=>exact⟨0,aN _,rfl,λj hj=>by omega,hbw⟩
        case round=>
         clear y0 y1 x0 x1 x2 x3 x4 x5 x6 fB fC;clear hbw hB I8 Gv d0 d1 hsl;obtain⟨m,hm,rfl,zW,hbw⟩:=hrel;have pR:=ah zW;clear zW;have hB:=fD hb0 hbw;obtain⟨⟨y0,y1⟩,x0,x1,x2,x3,x4,x5,x6,fB,fC⟩:=hK.O wr (hbw);obtain⟨A',c',I8,Gv,d0,d1,hsl⟩:=(hO.O wr hB).aC hlt;by_cases hml:m<(bK s.ak k).aH.length
         ·obtain⟨hok2,Qs,e0,e1,e2,e3⟩:=hsl.at_.aK hml;have hl:fG (bK s.ak k).aH m=s.aK k m:=rfl;rw[hl]at e0 e1 e2 e3
          clear hl;obtain⟨_,⟨b1,b2⟩,⟨b3,b4⟩,b5,b6⟩:=zU.O.aK hlt hml;obtain⟨b7,b8⟩:=wH zU.O.aA k m;go_wp2_with fail;have hBd:Below w w wr.drew:=hB.drew;go_region_held3 (λw'=>w'.cell? ⟨w.heap.size+1,1,none⟩=some (.slice A1 s.ak.length c1)/\w'.cell? ⟨w.heap.size+1,2,none⟩=some (.slice A2 s.aA.length c2)/\w'.cell? ⟨iH A1,l9 A1+k*2+1,none⟩=some (.slice A' (bK s.ak k).aH.length c')/\
           w'.cell? ⟨iH A',l9 A'+m*4,none⟩=some (.int .i64 (s.aK k m).dW)/\w'.cell? ⟨iH A',l9 A'+m*4+1,none⟩=some (.int .i64 (s.aK k m).jk)/\w'.cell? ⟨iH A',l9 A'+m*4+2,none⟩=some (.int .i64 (s.aK k m).qI)/\w'.cell? ⟨iH A',l9 A'+m*4+3,none⟩=some (.int .i64 (s.aK k m).eU)) (first|go_keep)
           (first
           |(go_at_call 207;refine(VG _ _ s.aA k m (hH.O _ hBd) zU.O.aA).mono ?_;rintro e w' ⟨rfl,rfl⟩)
           |(go_at_call 207;refine(VG _ _ s.aA k m (hH.O _ (hBd.alloc hBd.size _)) zU.O.aA).mono ?_;rintro e w' ⟨rfl,rfl⟩))
          all_goals
           have uo:Below W0 W0 (wr.alloc (xZ (s.aK k m))).drew:=(hbw.alloc hbw.size _).drew;have hbk1:iH A1<(wr.alloc (xZ (s.aK k m))).drew.heap.size:=by simp;omega
           have hd0:(wr.alloc (xZ (s.aK k m))).drew.cell? ⟨iH A1,l9 A1+k*2,none⟩=some (.int .i64 (bK s.ak k).eH):=(((aj _ _).alloc (ay _) _).drew.cell (p:=⟨iH A1,l9 A1+k*2,none⟩) Gv).trans d0;have hzl:(wr.alloc (xZ (s.aK k m))).drew.cell? ⟨wr.heap.size,1,none⟩=some (.int .i64 (s.aK k m).jk)/\(wr.alloc (xZ (s.aK k m))).drew.cell? ⟨wr.heap.size,2,none⟩=some (.int .i64 (s.aK k m).qI)/\(wr.alloc (xZ (s.aK k m))).drew.cell? ⟨wr.heap.size,3,none⟩=some (.int .i64 (s.aK k m).eU):=by simp
           clear d0 d1 e0 e1 e2 e3;clear y0 y1 x0 x1 x2 x3 x4 x5 x6 fB fC;obtain⟨⟨y0,y1⟩,x0,x1,x2,x3,x4,x5,x6,_⟩:=hK.O _ uo;have fB:=aJ kX uo.size;have fC:=aJ um uo.size;generalize (wr.alloc (xZ (s.aK k m))).drew=Wq at uo hbk1 hd0 hzl y0 y1 x0 x1 x2 x3 x4 x5 x6 fB fC ⊢
           obtain⟨z1,z2,z3⟩:=hzl;have hparts:=Xk s k m b7;unfold aI.aC at hparts
           rcases hparts with⟨g1,g2,g3,g4,hf⟩|⟨g1,g2,g3,g4,hf⟩|⟨g1,g2,g3,hf⟩|⟨g1,g2,g3,g4,g5,hf⟩|⟨g1,g2,g3,g4,g5,hf⟩|⟨g1,g2,g3,g4,hf⟩
           ·have dw:=ah (qG (p:=p) hlt (nR hml hf));clear hf;go_wp2_with fail;go_ret
            exact⟨gK (by rw[dw.O]),fD hb0 uo⟩
           ·have hf':=ah hf;clear hf;go_wp2_with fail;go_roundw
            case rel=>
             refine⟨m+1,by omega,by go_num,λj hj=>?_,uo⟩
             rcases bf.1 hj with h|rfl
             ·exact pR.O j h
             ·exact hf'.O
            case measure=>simp[dY];omega
           ·have dw:=ah (qG (p:=p) hlt (nR hml hf));clear hf;go_wp2_with fail;go_ret
            exact⟨gK (by rw[dw.O]),fD hb0 uo⟩
           ·have dw:=ah (qG (p:=p) hlt (nR hml hf));clear hf;go_wp2_with fail;go_ret
            exact⟨gK (by rw[dw.O]),fD hb0 uo⟩
           ·have hf':=ah hf;clear hf;go_wp2_with fail;go_roundw
            case rel=>
             refine⟨m+1,by omega,by go_num,λj hj=>?_,uo⟩
             rcases bf.1 hj with h|rfl
             ·exact pR.O j h
             ·exact hf'.O
            case measure=>simp[dY];omega
           ·have hf':=ah hf;clear hf;go_wp2_with fail;go_roundw
            case rel=>
             refine⟨m+1,by omega,by go_num,λj hj=>?_,uo⟩
             rcases bf.1 hj with h|rfl
             ·exact pR.O j h
             ·exact hf'.O
            case measure=>simp[dY];omega
         ·obtain rfl:m=(bK s.ak k).aH.length:=by omega
          go_wp2_with fail;go_roundw
          case rel=>
           refine⟨k+1,by omega,by go_num,λj hj=>?_,hbw⟩
           rcases bf.1 hj with h|rfl
           ·exact Ry.O j h
           ·exact sK.2 ⟨hng.O,pR.O⟩
          case measure=>simp[dY];omega
       ·by_cases hk1:(bK s.ak k).eH=1
        ·have hq:((bK s.ak k).eH==1)=true:=by simpa using hk1
         have dw:=ah (qG (p:=p) hlt (NZ (o:=k) hk1 hag));clear hk1 hag;go_wp2_with fail;go_ret
         exact⟨gK (by rw[dw.O]),hB⟩
        ·have hq:((bK s.ak k).eH==1)=false:=by simpa using hk1
         have hng:=ah (show ¬((s.aC k).eH=1/\pq (s.aC k)=true)from λh=>hk1 h.1)
         clear hag hk1;go_wp2_with fail;clear hq;go_loopw[10,11,12,13] (λi _ _ _ wr=>∃m:Nat,m<=(bK s.ak k).aH.length/\i=.int .i64 m/\(∀j,j<m->mO s k j=true)/\Below W0.heap.size W0 wr) (λi _ _ _ _=>(bK s.ak k).aH.length - (RowKit.intOf i).toNat)
         case atStart=>exact⟨0,aN _,rfl,λj hj=>by omega,hbw⟩
         case round=>
          clear y0 y1 x0 x1 x2 x3 x4 x5 x6 fB fC;clear hbw hB I8 Gv d0 d1 hsl;obtain⟨m,hm,rfl,zW,hbw⟩:=hrel;have pR:=ah zW;clear zW;have hB:=fD hb0 hbw;obtain⟨⟨y0,y1⟩,x0,x1,x2,x3,x4,x5,x6,fB,fC⟩:=hK.O wr (hbw);obtain⟨A',c',I8,Gv,d0,d1,hsl⟩:=(hO.O wr hB).aC hlt;by_cases hml:m<(bK s.ak k).aH.length
          ·obtain⟨hok2,Qs,e0,e1,e2,e3⟩:=hsl.at_.aK hml;have hl:fG (bK s.ak k).aH m=s.aK k m:=rfl;rw[hl]at e0 e1 e2 e3
           clear hl;obtain⟨_,⟨b1,b2⟩,⟨b3,b4⟩,b5,b6⟩:=zU.O.aK hlt hml;obtain⟨b7,b8⟩:=wH zU.O.aA k m;go_wp2_with fail;have hBd:Below w w wr.drew:=hB.drew;go_region_held3 (λw'=>w'.cell? ⟨w.heap.size+1,1,none⟩=some (.slice A1 s.ak.length c1)/\w'.cell? ⟨w.heap.size+1,2,none⟩=some (.slice A2 s.aA.length c2)/\w'.cell? ⟨iH A1,l9 A1+k*2+1,none⟩=some (.slice A' (bK s.ak k).aH.length c')/\
            w'.cell? ⟨iH A',l9 A'+m*4,none⟩=some (.int .i64 (s.aK k m).dW)/\w'.cell? ⟨iH A',l9 A'+m*4+1,none⟩=some (.int .i64 (s.aK k m).jk)/\w'.cell? ⟨iH A',l9 A'+m*4+2,none⟩=some (.int .i64 (s.aK k m).qI)/\w'.cell? ⟨iH A',l9 A'+m*4+3,none⟩=some (.int .i64 (s.aK k m).eU)) (first|go_keep)
            (first
            |(go_at_call 207;refine(VG _ _ s.aA k m (hH.O _ hBd) zU.O.aA).mono ?_;rintro e w' ⟨rfl,rfl⟩)
            |(go_at_call 207;refine(VG _ _ s.aA k m (hH.O _ (hBd.alloc hBd.size _)) zU.O.aA).mono ?_;rintro e w' ⟨rfl,rfl⟩))
           all_goals
            have uo:Below W0 W0 (wr.alloc (xZ (s.aK k m))).drew:=(hbw.alloc hbw.size _).drew;have hbk1:iH A1<(wr.alloc (xZ (s.aK k m))).drew.heap.size:=by simp;omega
            have hd0:(wr.alloc (xZ (s.aK k m))).drew.cell? ⟨iH A1,l9 A1+k*2,none⟩=some (.int .i64 (bK s.ak k).eH):=(((aj _ _).alloc (ay _) _).drew.cell (p:=⟨iH A1,l9 A1+k*2,none⟩) Gv).trans d0;have hzl:(wr.alloc (xZ (s.aK k m))).drew.cell? ⟨wr.heap.size,1,none⟩=some (.int .i64 (s.aK k m).jk)/\(wr.alloc (xZ (s.aK k m))).drew.cell? ⟨wr.heap.size,2,none⟩=some (.int .i64 (s.aK k m).qI)/\(wr.alloc (xZ (s.aK k m))).drew.cell? ⟨wr.heap.size,3,none⟩=some (.int .i64 (s.aK k m).eU):=by simp
            clear d0 d1 e0 e1 e2 e3;clear y0 y1 x0 x1 x2 x3 x4 x5 x6 fB fC;obtain⟨⟨y0,y1⟩,x0,x1,x2,x3,x4,x5,x6,_⟩:=hK.O _ uo;have fB:=aJ kX uo.size;have fC:=aJ um uo.size;generalize (wr.alloc (xZ (s.aK k m))).drew=Wq at uo hbk1 hd0 hzl y0 y1 x0 x1 x2 x3 x4 x5 x6 fB fC ⊢
            obtain⟨z1,z2,z3⟩:=hzl;have hparts:=Xk s k m b7;unfold aI.aC at hparts
            rcases hparts with⟨g1,g2,g3,g4,hf⟩|⟨g1,g2,g3,g4,hf⟩|⟨g1,g2,g3,hf⟩|⟨g1,g2,g3,g4,g5,hf⟩|⟨g1,g2,g3,g4,g5,hf⟩|⟨g1,g2,g3,g4,hf⟩
            ·have dw:=ah (qG (p:=p) hlt (nR hml hf));clear hf;go_wp2_with fail;go_ret
             exact⟨gK (by rw[dw.O]),fD hb0 uo⟩
            ·have hf':=ah hf;clear hf;go_wp2_with fail;go_roundw
             case rel=>
              refine⟨m+1,by omega,by go_num,λj hj=>?_,uo⟩
              rcases bf.1 hj with h|rfl
              ·exact pR.O j h
              ·exact hf'.O
             case measure=>simp[dY];omega
            ·have dw:=ah (qG (p:=p) hlt (nR hml hf));clear hf;go_wp2_with fail;go_ret
             exact⟨gK (by rw[dw.O]),fD hb0 uo⟩
            ·have dw:=ah (qG (p:=p) hlt (nR hml hf));clear hf;go_wp2_with fail;go_ret
             exact⟨gK (by rw[dw.O]),fD hb0 uo⟩
            ·have hf':=ah hf;clear hf;go_wp2_with fail;go_roundw
             case rel=>
              refine⟨m+1,by omega,by go_num,λj hj=>?_,uo⟩
              rcases bf.1 hj with h|rfl
              ·exact pR.O j h
              ·exact hf'.O
             case measure=>simp[dY];omega
            ·have hf':=ah hf;clear hf;go_wp2_with fail;go_roundw
             case rel=>
              refine⟨m+1,by omega,by go_num,λj hj=>?_,uo⟩
              rcases bf.1 hj with h|rfl
              ·exact pR.O j h
              ·exact hf'.O
             case measure=>simp[dY];omega
          ·obtain rfl:m=(bK s.ak k).aH.length:=by omega
           go_wp2_with fail;go_roundw
           case rel=>
            refine⟨k+1,by omega,by go_num,λj hj=>?_,hbw⟩
            rcases bf.1 hj with h|rfl
            ·exact Ry.O j h
            ·exact sK.2 ⟨hng.O,pR.O⟩
           case measure=>simp[dY];omega
    ·obtain rfl:k=s.ak.length:=by omega
     have dw:=ah (QV.2 ⟨hall'.O,Ry.O⟩);go_wp2_with fail;go_ret
     exact⟨gK (by rw[dw.O]),hB⟩
end
section
attribute [local go_sem] aV
theorem Qa{s:aI}(h:4<s.ak.length\/8<s.aF.length\/(s.ak.any λo=>!dM o.aH.length 1 3)=true):J4 s=false:=by
 cases hm:J4 s
 ·rfl
 ·obtain⟨h1,h2,h3⟩:=D7.1 hm;rcases h with h|h|h
  ·omega
  ·omega
  ·rw[GR,h3]at h
   cases h
theorem jiP{s:aI}(h1:s.ak.length<=4)(h2:s.aF.length<=8)(h3:(s.ak.any λo=>!dM o.aH.length 1 3)=false):J4 s=true:=by
 refine D7.2 ⟨h1,h2,?_⟩
 rw[GR]at h3
 simpa using h3
theorem Xf{s:aI}(h:J4 s=true):∀o,o<s.ak.length->(bK s.ak o).aH.length<=1000:=λo ho=>by
 have:=dZ.1 (vJ Ig (D7.1 h).2.2 ho);unfold bK;omega
theorem Nh(w:World)(v vs:Value)(p:dG)(s:aI)(hp:kK w w v p)(hv:kG w w vs s):
  Calls prog 90 #[v,vs] w λe w'=>e=.returned ((aO p s))/\Below w w w':=by
 obtain⟨Ab,cb,As,cs,rfl,hP',hBn,hSz,hlb,hls⟩:=o9 hp;obtain⟨A0,c0,A1,c1,A2,c2,A3,c3,A4,c4,A5,c5,A6,c6,rfl,hV,hN,hO,hH,hM,hI,hU,hX,hl0,hl1,hl2,hl3,hl4,hl5,Jb⟩:=lY hv;go_enter func90,ntmps90
 go_wp2_with fail;obtain⟨W0,hW0,hb0,kX,um,hsE,hK⟩:=uT w p s Ab cb As cs A0 c0 A1 c1 A2 c2 A3 c3 A4 c4 A5 c5 A6 c6;rw[hW0];clear hW0;obtain⟨⟨y0,y1⟩,x0,x1,x2,x3,x4,x5,x6,fB,fC⟩:=hK.O W0 (aj W0 W0);go_wp2_with fail;clear y0 y1 x0 x1 x2 x3 x4 x5 x6 fB fC;refine(WB _ _ _ p s.on (hP'.O _ hb0) (hN.O _ hb0)).mono ?_
 rintro e W1 ⟨rfl,hb1⟩;have hB1:=fD hb0 hb1;obtain⟨⟨y0,y1⟩,x0,x1,x2,x3,x4,x5,x6,fB,fC⟩:=hK.O W1 (hb1);by_cases hsh:iU p s.on=0
 ·have hsh':=ah hsh;rw[hsh];clear hsh;by_cases h4:s.ak.length<=4
  ·by_cases h8:s.aF.length<=8
   ·go_wp2_with fail;clear y0 y1 x0 x1 x2 x3 x4 x5 x6 fB fC;refine(Tv _ _ s.ak 139 #[] (λo=>!dM o.aH.length 1 3) X5 (hO.O W1 hB1) (λj _ W hW u hu=>jgH _ u W hu)).mono ?_
    rintro e W2 ⟨rfl,hb2⟩;have Gu:=fD hb1 hb2;have hB2:=fD hb0 Gu;obtain⟨⟨y0,y1⟩,x0,x1,x2,x3,x4,x5,x6,fB,fC⟩:=hK.O W2 (Gu);cases hany:(s.ak.any λo=>!dM o.aH.length 1 3)
    ·have hmy:=ah (jiP h4 h8 hany);clear hany;go_wp2_with fail;clear y0 y1 x0 x1 x2 x3 x4 x5 x6 fB fC;refine(jk9 _ _ _ p s (hP'.O W2 hB2) (hV.O W2 hB2) (jR.1 hsh'.O).1 h4 (Xf hmy.O)).mono ?_
     rintro e W3 ⟨rfl,hb3⟩;have Rx:=fD Gu hb3;have hB3:=fD hb0 Rx;obtain⟨⟨y0,y1⟩,x0,x1,x2,x3,x4,x5,x6,fB,fC⟩:=hK.O W3 (Rx);cases hf:oU p s
     ·have dw:=ah (Oa hsh'.O hmy.O hf);clear hf;go_wp2_with fail;go_ret
      exact⟨iK (by rw[dw.O]),hB3⟩
     ·have hsn:=ah (pz.mk hsh'.O hmy.O hf);clear hf;go_wp2_with fail;clear y0 y1 x0 x1 x2 x3 x4 x5 x6 fB fC;refine(jk6 _ _ _ p s (hP'.O W3 hB3) (hV.O W3 hB3) hsn.O).mono ?_
      rintro e W4 ⟨rfl,hb4⟩;have hB4:=fD hB3 hb4;cases hq:Fv p s
      ·have dw:=ah (Py hsn.O hq);clear hq;go_wp2_with fail;go_ret
       exact⟨iK (by rw[dw.O]),hB4⟩
      ·have dw:=ah (LW hsn.O hq);clear hq;go_wp2_with fail;go_ret
       exact⟨iK (by rw[dw.O]),hB4⟩
    ·have dw:=ah (zF hsh'.O (Qa (.inr (.inr hany))));clear hany;go_wp2_with fail;go_ret
     exact⟨iK (by rw[dw.O]),hB2⟩
   ·have dw:=ah (zF hsh'.O (Qa (.inr (.inl (by omega)))))
    go_wp2_with fail;go_ret
    exact⟨iK (by rw[dw.O]),hB1⟩
  ·have dw:=ah (zF hsh'.O (Qa (.inl (by omega))))
   go_wp2_with fail;go_ret
   exact⟨iK (by rw[dw.O]),hB1⟩
 ·have hne:(iU p s.on !=0)=true:=by simpa using hsh
  have dw:=ah (MQ hsh);clear hsh;go_wp2_with fail;go_ret
  exact⟨iK (by rw[dw.O]),hB1⟩
theorem BD(w:World)(v vs:Value)(p:dG)(s:aI)(hp:kK w w v p)(hv:kG w w vs s):
  Calls prog 114 #[v,vs] w λe w'=>e=.returned ((aO p s))/\Below w w w':=by
 obtain⟨Ab,cb,As,cs,rfl,hP',hBn,hSz,hlb,hls⟩:=o9 hp;obtain⟨A0,c0,A1,c1,A2,c2,A3,c3,A4,c4,A5,c5,A6,c6,rfl,hV,hN,hO,hH,hM,hI,hU,hX,hl0,hl1,hl2,hl3,hl4,hl5,Jb⟩:=lY hv;go_enter func114,ntmps114
 go_wp2_with fail;obtain⟨W0,hW0,hb0,kX,um,hsE,hK⟩:=uT w p s Ab cb As cs A0 c0 A1 c1 A2 c2 A3 c3 A4 c4 A5 c5 A6 c6;rw[hW0];clear hW0;obtain⟨⟨y0,y1⟩,x0,x1,x2,x3,x4,x5,x6,fB,fC⟩:=hK.O W0 (aj W0 W0);go_wp2_with fail;clear y0 y1 x0 x1 x2 x3 x4 x5 x6 fB fC;refine(jcb _ _ _ p s.on (hP'.O _ hb0) (hN.O _ hb0)).mono ?_
 rintro e W1 ⟨rfl,hb1⟩;have hB1:=fD hb0 hb1;obtain⟨⟨y0,y1⟩,x0,x1,x2,x3,x4,x5,x6,fB,fC⟩:=hK.O W1 (hb1);by_cases hsh:iU p s.on=0
 ·have hsh':=ah hsh;rw[hsh];clear hsh;by_cases h4:s.ak.length<=4
  ·by_cases h8:s.aF.length<=8
   ·go_wp2_with fail;go_loopw[6] (λi wr=>∃k:Nat,k<=s.ak.length/\i=.int .i64 k/\(∀j,j<k->dM (bK s.ak j).aH.length 1 3=true)/\Below W0.heap.size W0 wr) (λi _=>s.ak.length - (RowKit.intOf i).toNat)
    case atStart=>exact⟨0,aN _,rfl,λj hj=>by omega,hb1⟩
    case round=>
     clear y0 y1 x0 x1 x2 x3 x4 x5 x6 fB fC;clear hb1 hB1;obtain⟨k,hk,rfl,kQ,hbw⟩:=hrel;have hall':=ah kQ;clear kQ;have hB:=fD hb0 hbw;obtain⟨⟨y0,y1⟩,x0,x1,x2,x3,x4,x5,x6,fB,fC⟩:=hK.O wr (hbw);by_cases hlt:k<s.ak.length
     ·obtain⟨A',c',I8,Gv,d0,d1,hsl⟩:=(hO.O wr hB).aC hlt;cases hwi:dM (bK s.ak k).aH.length 1 3
      ·have dw:=ah (zF hsh'.O (Qa (.inr (.inr (by
        rw[kU];exact⟨bK s.ak k,by rw[uO hlt];exact dh hlt,by rw[hwi];rfl⟩)))))
       go_wp2_with (go_at_call 43;refine(oz _ _ _ _).mono ?_;rintro e w' ⟨rfl,rfl⟩)
       go_ret
       exact⟨iK (by rw[dw.O]),hB⟩
      ·have jtX:=ah hwi;go_wp2_with (go_at_call 43;refine(oz _ _ _ _).mono ?_;rintro e w' ⟨rfl,rfl⟩)
       go_roundw
       case rel=>
        refine⟨k+1,by omega,by go_num,λj hj=>?_,hbw⟩
        rcases bf.1 hj with h|rfl
        ·exact hall'.O j h
        ·exact jtX.O
       case measure=>simp[dY];omega
     ·obtain rfl:k=s.ak.length:=by omega
      have hmy:=ah (D7.2 ⟨h4,h8,ET Ig hall'.O⟩);clear hall';go_wp2_with fail;clear y0 y1 x0 x1 x2 x3 x4 x5 x6 fB fC;refine(jlh _ _ _ p s (hP'.O wr hB) (hV.O wr hB) (jR.1 hsh'.O).1 h4 h8 (Xf hmy.O)).mono ?_
      rintro e W3 ⟨rfl,hb3⟩;have Rx:=fD hbw hb3;have hB3:=fD hb0 Rx;obtain⟨⟨y0,y1⟩,x0,x1,x2,x3,x4,x5,x6,fB,fC⟩:=hK.O W3 (Rx);cases hf:oU p s
      ·have dw:=ah (Oa hsh'.O hmy.O hf);clear hf;go_wp2_with fail;go_ret
       exact⟨iK (by rw[dw.O]),hB3⟩
      ·have hsn:=ah (pz.mk hsh'.O hmy.O hf);clear hf;go_wp2_with fail;clear y0 y1 x0 x1 x2 x3 x4 x5 x6 fB fC;refine(jlc _ _ _ p s (hP'.O W3 hB3) (hV.O W3 hB3) hsn.O).mono ?_
       rintro e W4 ⟨rfl,hb4⟩;have hB4:=fD hB3 hb4;cases hq:Fv p s
       ·have dw:=ah (Py hsn.O hq);clear hq;go_wp2_with fail;go_ret
        exact⟨iK (by rw[dw.O]),hB4⟩
       ·have dw:=ah (LW hsn.O hq);clear hq;go_wp2_with fail;go_ret
        exact⟨iK (by rw[dw.O]),hB4⟩
   ·have dw:=ah (zF hsh'.O (Qa (.inr (.inl (by omega)))))
    go_wp2_with fail;go_ret
    exact⟨iK (by rw[dw.O]),hB1⟩
  ·have dw:=ah (zF hsh'.O (Qa (.inl (by omega))))
   go_wp2_with fail;go_ret
   exact⟨iK (by rw[dw.O]),hB1⟩
 ·have hne:(iU p s.on !=0)=true:=by simpa using hsh
  have dw:=ah (MQ hsh);clear hsh;go_wp2_with fail;go_ret
  exact⟨iK (by rw[dw.O]),hB1⟩
end
section
attribute [local go_sem] aV
def Kt(p:dG)(s:aI)(b:Int)(k:Nat):Int:=(p.bin b.toNat).room - ny (λg=>(cell s.on b.toNat g+iC s b g)*aZ p.aW g) k
theorem XV(p:dG)(s:aI)(b:Int):Kt p s b p.aW.length=free p s b:=rfl
theorem jdk(p:dG)(s:aI)(b:Int)(k:Nat):Kt p s b (k+1)=Kt p s b k - (cell s.on b.toNat k+iC s b k)*aZ p.aW k:=by
 unfold Kt;simp only[ny];omega
theorem P8{a b:Int}(ha:0<=a/\a<=1800)(hb:1<=b/\b<=9):0<=a*b/\a*b<=16200:=by
 refine⟨Df ha.1 (by omega),?_⟩
 calc a*b<=a*9:=Int.mul_le_mul_of_nonneg_left hb.2 ha.1
  _<=16200:=by omega
theorem WS{p:dG}{s:aI}(hs:pz p s){b:Int}(hb:0<=b/\b<p.dP.length){k:Nat}(hk:k<p.aW.length):
  (0<=cell s.on b.toNat k+iC s b k/\cell s.on b.toNat k+iC s b k<=1800)/\(0<=(cell s.on b.toNat k+iC s b k)*aZ p.aW k/\(cell s.on b.toNat k+iC s b k)*aZ p.aW k<=16200):=by
 have h1:=hs.cell (b:=b.toNat) (g:=k) (by omega) hk
 have h2:=yh hs b k;have h3:0<=cell s.on b.toNat k+iC s b k/\cell s.on b.toNat k+iC s b k<=1800:=by omega
 exact⟨h3,P8 h3 (Ac hs.plan hk)⟩
theorem Tm{p:dG}{s:aI}(hs:pz p s){b:Int}(hb:0<=b/\b<p.dP.length){k:Nat}(hk:k<=p.aW.length): -48600<=Kt p s b k/\Kt p s b k<=1000:=by
 have h1:=JC hs.plan (b:=b.toNat) (by omega)
 have h2:=BP (f:=λg:Nat=>(cell s.on b.toNat g+iC s b g)*aZ p.aW g) (n:=k) (m:=16200) λg hg=>(WS hs hb (by omega)).2
 have hc:=hs.counts;unfold Kt dG.bin;omega
theorem jio(w:World)(v vo:Value)(p:dG)(on:List (List Int))(b:Int)(hp:kK w w v p)(ho:KJ iW w w vo on)(hz:iU p on=0)(hb:0<=b/\b<p.dP.length):
  Calls prog 167 #[v,vo,b] w λe w'=>e=.returned ((MZ p on b.toNat))/\Below w w w':=by
 have:=jlb w v vo p on b.toNat hp ho hz (by omega)
 rwa [show((b.toNat:Nat):Int)=b by omega]at this
theorem jmJ(w:World)(v:Value)(p:dG)(s:aI)(b g:Int)(hv:kG w w v s)(hs:pz p s)(hb:0<=b/\b<p.dP.length)(hg:0<=g/\g<p.aW.length):
  Calls prog 106 #[v,b,g] w λe w'=>e=.returned ((lW s b g))/\Below w w w':=by
 have hb1:0<=b:=hb.1;have hb2:b<(s.on.length:Int):=by rw[hs.sO];exact hb.2
 have hg1:0<=g:=hg.1;have hbl:b.toNat<s.on.length:=by omega
 have hgl:g.toNat<(fO s.on b.toNat).length:=by rw[hs.rowLen (by omega)];omega
 have hg2:g<((fO s.on b.toNat).length:Int):=by omega
 have hcr:=hs.cell (b:=b.toNat) (g:=g.toNat) (by omega) (by omega)
 have hbr:=F6 hs b g;have zU:=ah hs;clear hs hb hg;obtain⟨A0,c0,A1,c1,A2,c2,A3,c3,A4,c4,A5,c5,A6,c6,rfl,hV,hN,hO,hH,hM,hI,hU,hX,hl0,hl1,hl2,hl3,hl4,hl5,Jb⟩:=lY hv;go_enter func106,ntmps106
 go_wp2_with fail;obtain⟨W0,hW0,hb0,kX,um,hsE,hK⟩:=KD w s A0 c0 A1 c1 A2 c2 A3 c3 A4 c4 A5 c5 A6 c6;rw[hW0];clear hW0;obtain⟨Ar,cr,or0,UN,Zp,wK⟩:=(hN.O W0 hb0).row hbl;obtain⟨or1,lr1,RZ⟩:=wK.at_.int hgl;have hcl:aZ (fO s.on b.toNat) g.toNat=cell s.on b.toNat g.toNat:=rfl;rw[hcl]at RZ
 clear hcl;obtain⟨_,x0,x1,x2,x3,x4,x5,x6,_⟩:=hK.O W0 (aj _ _);have q1:=λo d os=>cZ (w:=W0) (b:=w.heap.size) kX o d os
 have q2:=λo d os=>cZ (w:=W0) (b:=iH A0) UN o d os
 have q3:=λo d os=>cZ (w:=W0) (b:=iH Ar) lr1 o d os
 have hV2:=ah (λd os=>hV.O _ (hb0.trans ((kH W0 d os).mono hb0.size)))
 have hw1:IntKind.i64.wrap (cell s.on b.toNat g.toNat - bound s b g)=cell s.on b.toNat g.toNat - bound s b g:=aP _ (by omega)
 go_wp2_with fail;refine dO (by kernel_rfl) (by kernel_rfl) ?_
 repeat(go_big_quiet_step ((go_at_call 108;refine fV (jat _ _ p s _ _ (hV2.O _ _) zU.O))))
 refine wpQuiet_nil ?_
 intro W2 hw';have hb2:=dN hw';clear hw';go_wp2_with fail;go_ret
 exact⟨iK rfl,fD hb0 hb2⟩
theorem jcd(w:World)(v:Value)(p:dG)(s:aI)(b g:Int)(hv:kG w w v s)(hs:pz p s)(hb:0<=b/\b<p.dP.length)(hg:0<=g/\g<p.aW.length):
  Calls prog 122 #[v,b,g] w λe w'=>e=.returned ((lW s b g))/\Below w w w':=by
 have hb1:0<=b:=hb.1;have hb2:b<(s.on.length:Int):=by rw[hs.sO];exact hb.2
 have hg1:0<=g:=hg.1;have hbl:b.toNat<s.on.length:=by omega
 have hgl:g.toNat<(fO s.on b.toNat).length:=by rw[hs.rowLen (by omega)];omega
 have hg2:g<((fO s.on b.toNat).length:Int):=by omega
 have hcr:=hs.cell (b:=b.toNat) (g:=g.toNat) (by omega) (by omega)
 have hbr:=F6 hs b g;have zU:=ah hs;clear hs hb hg;obtain⟨A0,c0,A1,c1,A2,c2,A3,c3,A4,c4,A5,c5,A6,c6,rfl,hV,hN,hO,hH,hM,hI,hU,hX,hl0,hl1,hl2,hl3,hl4,hl5,Jb⟩:=lY hv;go_enter func122,ntmps122
 go_wp2_with fail;obtain⟨W0,hW0,hb0,kX,um,hsE,hK⟩:=KD w s A0 c0 A1 c1 A2 c2 A3 c3 A4 c4 A5 c5 A6 c6;rw[hW0];clear hW0;obtain⟨Ar,cr,or0,UN,Zp,wK⟩:=(hN.O W0 hb0).row hbl;obtain⟨or1,lr1,RZ⟩:=wK.at_.int hgl;have hcl:aZ (fO s.on b.toNat) g.toNat=cell s.on b.toNat g.toNat:=rfl;rw[hcl]at RZ
 clear hcl;obtain⟨_,x0,x1,x2,x3,x4,x5,x6,_⟩:=hK.O W0 (aj _ _);have q1:=λo d os=>cZ (w:=W0) (b:=w.heap.size) kX o d os
 have q2:=λo d os=>cZ (w:=W0) (b:=iH A0) UN o d os
 have q3:=λo d os=>cZ (w:=W0) (b:=iH Ar) lr1 o d os
 have hV2:=ah (λd os=>hV.O _ (hb0.trans ((kH W0 d os).mono hb0.size)))
 have hw1:IntKind.i64.wrap (cell s.on b.toNat g.toNat - bound s b g)=cell s.on b.toNat g.toNat - bound s b g:=aP _ (by omega)
 go_wp2_with fail;refine dO (by kernel_rfl) (by kernel_rfl) ?_
 repeat(go_big_quiet_step ((go_at_call 123;refine fV (jaz _ _ p s _ _ (hV2.O _ _) zU.O))))
 refine wpQuiet_nil ?_
 intro W2 hw';have hb2:=dN hw';clear hw';go_wp2_with fail;go_ret
 exact⟨iK rfl,fD hb0 hb2⟩
theorem jif(w:World)(v vs:Value)(p:dG)(s:aI)(b:Int)(hp:kK w w v p)(hv:kG w w vs s)(hs:pz p s)(hb:0<=b/\b<p.dP.length):
  Calls prog 92 #[v,vs,b] w λe w'=>e=.returned ((free p s b))/\Below w w w':=by
 have hbb:=ah hb;have hb1:0<=b:=hb.1;have hb2:b<(s.on.length:Int):=by rw[hs.sO];exact hb.2
 have hb3:b<(p.dP.length:Int):=hb.2;have hbl:b.toNat<s.on.length:=by omega
 have jc2:b.toNat<p.dP.length:=by omega
 have hcnt:=hs.counts;have zU:=ah hs;clear hs hb;obtain⟨Ab,cb,As,cs,rfl,hP',hBn,hSz,hlb,hls⟩:=o9 hp;obtain⟨A0,c0,A1,c1,A2,c2,A3,c3,A4,c4,A5,c5,A6,c6,rfl,hV,hN,hO,hH,hM,hI,hU,hX,hl0,hl1,hl2,hl3,hl4,hl5,Jb⟩:=lY hv;obtain⟨ok0,lk0,k0,k1,k2,k3⟩:=(hBn.O w (aj _ _)).at_.bin jc2;go_enter func92,ntmps92
 go_wp2_with fail;obtain⟨W0,hW0,hb0,kX,um,hsE,hK⟩:=uT w p s Ab cb As cs A0 c0 A1 c1 A2 c2 A3 c3 A4 c4 A5 c5 A6 c6;rw[hW0];clear hW0;obtain⟨⟨y0,y1⟩,x0,x1,x2,x3,x4,x5,x6,fB,fC⟩:=hK.O W0 (aj W0 W0);clear k0 k1 k2 k3;go_loopw[7,19,8,9] (λn i _ _ wr=>∃k:Nat,k<=p.aW.length/\i=.int .i64 k/\n=.int .i64 (Kt p s b k)/\Below W0.heap.size W0 wr) (λ_ i _ _ _=>p.aW.length - (RowKit.intOf i).toNat)
 case atStart=>exact⟨0,aN _,rfl,by unfold Kt dG.bin;simp[ny],aj _ _⟩
 case round=>
  clear y0 y1 x0 x1 x2 x3 x4 x5 x6 fB fC;obtain⟨k,hk,rfl,rfl,hbw⟩:=hrel;have hB:=fD hb0 hbw;obtain⟨t1,t2⟩:=Tm zU.O hbb.O hk;obtain⟨⟨y0,y1⟩,x0,x1,x2,x3,x4,x5,x6,fB,fC⟩:=hK.O wr (hbw);by_cases hlt:k<p.aW.length
  ·have hgl:k<(fO s.on b.toNat).length:=by rw[zU.O.rowLen jc2];exact hlt
   obtain⟨Ar,cr,or0,UN,Zp,wK⟩:=(hN.O wr hB).row hbl;obtain⟨or1,lr1,RZ⟩:=wK.at_.int hgl;obtain⟨os0,ls0,rs0⟩:=(hSz.O wr hB).at_.int hlt;have hcl:aZ (fO s.on b.toNat) k=cell s.on b.toNat k:=rfl;rw[hcl]at RZ
   clear hcl;obtain⟨⟨m1,m2⟩,m3,m4⟩:=WS zU.O hbb.O hlt;have q1:=λo d os=>cZ (w:=wr) (b:=w.heap.size+1) fB o d os
   have q2:=λo d os=>cZ (w:=wr) (b:=iH A0) UN o d os
   have q3:=λo d os=>cZ (w:=wr) (b:=iH Ar) lr1 o d os
   have hV2:=ah (λd os=>hV.O _ (hB.trans ((kH wr d os).mono hB.size)))
   have hsu:=ah (jdk p s b k);have hw1:IntKind.i64.wrap (cell s.on b.toNat k+iC s b k)=cell s.on b.toNat k+iC s b k:=aP _ (by omega)
   have hw2:IntKind.i64.wrap ((cell s.on b.toNat k+iC s b k)*aZ p.aW k)=(cell s.on b.toNat k+iC s b k)*aZ p.aW k:=aP _ (by omega)
   have hw3:IntKind.i64.wrap (Kt p s b k - (cell s.on b.toNat k+iC s b k)*aZ p.aW k)=Kt p s b k - (cell s.on b.toNat k+iC s b k)*aZ p.aW k:=aP _ (by omega)
   go_wp2_with fail;refine dO (by kernel_rfl) (by kernel_rfl) ?_
   repeat(go_big_quiet_step ((go_at_call 93;refine fV (VF _ _ p s _ _ (hV2.O _ _) zU.O))))
   refine wpQuiet_nil ?_
   intro W2 hw';have hb2:=dN hw';clear hw';clear q1 q2 q3 hw1 hw2 hw3;go_wp2_with fail;go_roundw
   case rel=>exact⟨k+1,by omega,by go_num,by rw[hsu.O],fD hbw hb2⟩
   case measure=>simp[dY];omega
  ·obtain rfl:k=p.aW.length:=by omega
   go_wp2_with fail;go_ret
   exact⟨iK (XV _ _ _),hB⟩
def Fh(p:dG)(s:aI)(b:Int)(k:Nat):Int:=(p.bin b.toNat).room - MZ p s.on b.toNat - ny (λg=>iC s b g*aZ p.aW g) k
theorem jbg(p:dG)(s:aI)(b:Int)(k:Nat):Fh p s b (k+1)=Fh p s b k - iC s b k*aZ p.aW k:=by
 unfold Fh;simp only[ny];omega
theorem jgD(f g:Nat->Int)(n:Nat):ny (λk=>f k+g k) n=ny f n+ny g n:=by
 induction n with
 |zero=>rfl
 |succ n ih=>simp only[ny];rw[ih];omega
theorem jdl(p:dG)(s:aI)(b:Int):Fh p s b p.aW.length=free p s b:=by
 unfold Fh free MZ;have:ny (λg=>(cell s.on b.toNat g+iC s b g)*aZ p.aW g) p.aW.length=ny (λg=>cell s.on b.toNat g*aZ p.aW g) p.aW.length+ny (λg=>iC s b g*aZ p.aW g) p.aW.length:=by
  rw[<- jgD];exact zN λk _=>yG _ _ _
 rw[this];omega
theorem Yc{p:dG}{s:aI}(hs:pz p s)(b:Int){k:Nat}(hk:k<p.aW.length):0<=iC s b k*aZ p.aW k/\iC s b k*aZ p.aW k<=16200:=by
 have h2:=yh hs b k;exact P8 (by omega) (Ac hs.plan hk)
theorem Zb{p:dG}{s:aI}(hs:pz p s){b:Nat}(hb:b<p.dP.length):0<=MZ p s.on b/\MZ p s.on b<=5400:=by
 have hc:=hs.counts;have:=Wj hs.shelf (b:=b) (by rw[hs.sO];exact hb) (ay p.aW.length)
 unfold MZ;omega
theorem YW{p:dG}{s:aI}(hs:pz p s){b:Int}(hb:0<=b/\b<p.dP.length){k:Nat}(hk:k<=p.aW.length): -60000<=Fh p s b k/\Fh p s b k<=1000:=by
 have h1:=JC hs.plan (b:=b.toNat) (by omega)
 have h2:=BP (f:=λg:Nat=>iC s b g*aZ p.aW g) (n:=k) (m:=16200) λg hg=>Yc hs b (by omega)
 have h3:=Zb hs (b:=b.toNat) (by omega)
 have hc:=hs.counts;unfold Fh dG.bin;omega
theorem jay(w:World)(v vs:Value)(p:dG)(s:aI)(b:Int)(hp:kK w w v p)(hv:kG w w vs s)(hs:pz p s)(hb:0<=b/\b<p.dP.length):
  Calls prog 116 #[v,vs,b] w λe w'=>e=.returned ((free p s b))/\Below w w w':=by
 have hbb:=ah hb;have hb1:0<=b:=hb.1;have hb3:b<(p.dP.length:Int):=hb.2;have jc2:b.toNat<p.dP.length:=by omega
 have hcnt:=hs.counts;obtain⟨⟨rm1,rm2⟩,_⟩:=JC hs.plan jc2;obtain⟨us1,us2⟩:=Zb hs jc2;have zU:=ah hs;clear hs hb;obtain⟨Ab,cb,As,cs,rfl,hP',hBn,hSz,hlb,hls⟩:=o9 hp;obtain⟨A0,c0,A1,c1,A2,c2,A3,c3,A4,c4,A5,c5,A6,c6,rfl,hV,hN,hO,hH,hM,hI,hU,hX,hl0,hl1,hl2,hl3,hl4,hl5,Jb⟩:=lY hv;go_enter func116,ntmps116
 go_wp2_with fail;obtain⟨W0,hW0,hb0,kX,um,hsE,hK⟩:=uT w p s Ab cb As cs A0 c0 A1 c1 A2 c2 A3 c3 A4 c4 A5 c5 A6 c6;rw[hW0];clear hW0;obtain⟨⟨y0,y1⟩,x0,x1,x2,x3,x4,x5,x6,fB,fC⟩:=hK.O W0 (aj W0 W0);obtain⟨ok0,lk0,k0,k1,k2,k3⟩:=(hBn.O W0 hb0).at_.bin jc2;clear k0 k2 k3;have q1:=λo d os=>cZ (w:=W0) (b:=w.heap.size) fC o d os
 have q2:=λo d os=>cZ (w:=W0) (b:=w.heap.size+1) fB o d os
 have q3:=λo d os=>cZ (w:=W0) (b:=iH Ab) lk0 o d os
 have hP2:=ah (λd os=>hP'.O _ (hb0.trans ((kH W0 d os).mono hb0.size)))
 have hN2:=ah (λd os=>hN.O _ (hb0.trans ((kH W0 d os).mono hb0.size)))
 have hw1:IntKind.i64.wrap ((mG p.dP b.toNat).room - MZ p s.on b.toNat)=(mG p.dP b.toNat).room - MZ p s.on b.toNat:=aP _ (by omega)
 go_wp2_with fail;refine dO (by kernel_rfl) (by kernel_rfl) ?_
 repeat(go_big_quiet_step ((go_at_call 167;refine fV (jio _ _ _ p s.on b (hP2.O _ _) (hN2.O _ _) zU.O.shelf hbb.O))))
 refine wpQuiet_nil ?_
 intro W9 hw';have AA:=dN hw';clear hw';clear q1 q2 q3 hw1;clear y0 y1 x0 x1 x2 x3 x4 x5 x6 fB fC;obtain⟨⟨y0,y1⟩,x0,x1,x2,x3,x4,x5,x6,fB,fC⟩:=hK.O W9 (AA);go_wp2_with fail;go_loopw[7,8] (λn i wr=>∃k:Nat,k<=p.aW.length/\i=.int .i64 k/\n=.int .i64 (Fh p s b k)/\Below W0.heap.size W0 wr) (λ_ i _=>p.aW.length - (RowKit.intOf i).toNat)
 case atStart=>exact⟨0,aN _,rfl,by unfold Fh dG.bin;simp[ny],AA⟩
 case round=>
  clear y0 y1 x0 x1 x2 x3 x4 x5 x6 fB fC;clear k1;obtain⟨k,hk,rfl,rfl,hbw⟩:=hrel;have hB:=fD hb0 hbw;obtain⟨t1,t2⟩:=YW zU.O hbb.O hk;obtain⟨⟨y0,y1⟩,x0,x1,x2,x3,x4,x5,x6,fB,fC⟩:=hK.O wr (hbw);by_cases hlt:k<p.aW.length
  ·obtain⟨os0,ls0,rs0⟩:=(hSz.O wr hB).at_.int hlt;obtain⟨m3,m4⟩:=Yc zU.O b hlt;have q0:=λo d os=>cZ (w:=wr) (b:=w.heap.size) fC o d os
   have q1:=λo d os=>cZ (w:=wr) (b:=w.heap.size+1) fB o d os
   have q2:=λo d os=>cZ (w:=wr) (b:=iH As) ls0 o d os
   have hV2:=ah (λd os=>hV.O _ (hB.trans ((kH wr d os).mono hB.size)))
   have hsu:=ah (jbg p s b k);have hw2:IntKind.i64.wrap (iC s b k*aZ p.aW k)=iC s b k*aZ p.aW k:=aP _ (by omega)
   have hw3:IntKind.i64.wrap (Fh p s b k - iC s b k*aZ p.aW k)=Fh p s b k - iC s b k*aZ p.aW k:=aP _ (by omega)
   go_wp2_with fail;refine dO (by kernel_rfl) (by kernel_rfl) ?_
   repeat(go_big_quiet_step ((go_at_call 117;refine fV (Nl _ _ p s _ _ (hV2.O _ _) zU.O))))
   refine wpQuiet_nil ?_
   intro W2 hw';have hb2:=dN hw';clear hw';clear q0 q1 q2 hw2 hw3;go_wp2_with fail;go_roundw
   case rel=>exact⟨k+1,by omega,by go_num,by rw[hsu.O],fD hbw hb2⟩
   case measure=>simp[dY];omega
  ·obtain rfl:k=p.aW.length:=by omega
   go_wp2_with fail;go_ret
   exact⟨iK (jdl _ _ _),hB⟩
end
section
attribute [local go_sem] aV
theorem jlt{l:List eX}{h:eX}{k:Nat}(hk:k<=l.length)(h1:∀i,i<k->ord (hold l i) h<0)(h2:∀i,k<=i->i<l.length->0<=ord (hold l i) h):pos l h=k:=
 pos_eq hk h1 (λhk'=>h2 k (ay _) hk')
theorem jh2(w:World)(v:Value)(l:List eX)(x:eX)(hv:Sl iD w w v l)(hok:iI l=true)(hn:l.length<=1000000):
  Calls prog 198 #[v,uK x,.func (.func 197) #[] #[]] w λe w'=>e=.returned (.tuple #[(pos l x),.bool (Ap l x)])/\Below w w w':=by
 obtain⟨A,c,rfl,_,hA⟩:=hv;have hless:=ah (λ(i j:Nat) (hij:i<=j) (hj:j<l.length) (h:ord (hold l j) x<0)=>jfY hok hij hj h)
 have hok':=ah hok;clear hok;have hb0:Below w w (w.alloc (nC x)):=(aj _ _).alloc (ay _) _;unfold uK;go_enter func198,ntmps198
 go_wp2_with fail;obtain⟨W0,hW0⟩:∃W0,W0=w.alloc (nC x):=⟨_,rfl⟩;rw[<- hW0]at hb0 ⊢
 have z0:W0.cell? w=some (.int .i64 x.aC)/\W0.cell? ⟨w.heap.size,1,none⟩=some (.int .i64 x.aK)/\W0.cell? ⟨w.heap.size,2,none⟩=some (.int .i64 x.bin)/\W0.cell? ⟨w.heap.size,3,none⟩=some (.int .i64 x.n):=by rw[hW0];simp
 have hsz:w.heap.size<W0.heap.size:=by rw[hW0];simp
 clear hW0;obtain⟨z0,z1,z2,z3⟩:=z0;go_loopw[9,10,11] (λi j _ wr=>∃a b:Nat,a<=b/\b<=l.length/\i=.int .i64 a/\j=.int .i64 b/\(∀m,m<a->ord (hold l m) x<0)/\(∀m,b<=m->m<l.length->0<=ord (hold l m) x)/\Below W0.heap.size W0 wr) (λi j _ _=>(RowKit.intOf j - RowKit.intOf i).toNat)
 case atStart=>exact⟨0,l.length,aN _,ay _,rfl,rfl,λm hm=>by omega,λm h1 h2=>by omega,aj _ _⟩
 case round=>
  obtain⟨a,b,hab,hbl,rfl,rfl,h1,h2,hbw⟩:=hrel;have h1':=ah h1;have h2':=ah h2;clear h1 h2;by_cases hlt:a<b
  ·have hm:(a+b) / 2<l.length:=by omega
   have hma:a<=(a+b) / 2:=by omega
   have hmb:(a+b) / 2<b:=by omega
   have hB:=fD hb0 hbw;have hBz:w.heap.size<wr.heap.size:=aJ hsz hbw.size;obtain⟨y0,y1,y2,y3⟩:wr.cell? w=some (.int .i64 x.aC)/\wr.cell? ⟨w.heap.size,1,none⟩=some (.int .i64 x.aK)/\wr.cell? ⟨w.heap.size,2,none⟩=some (.int .i64 x.bin)/\wr.cell? ⟨w.heap.size,3,none⟩=some (.int .i64 x.n):=
    ⟨(hbw.cell (p:=⟨_,_,none⟩) hsz).trans z0,(hbw.cell (p:=⟨_,_,none⟩) hsz).trans z1,(hbw.cell (p:=⟨_,_,none⟩) hsz).trans z2,(hbw.cell (p:=⟨_,_,none⟩) hsz).trans z3⟩
   obtain⟨hok,MW,b0,b1,b2,b3⟩:=(hA.up hB hB.size).hold hm;have q0:=λo d os=>cZ (w:=wr) (b:=w.heap.size) hBz o d os
   have qA:=λo d os=>cZ (w:=wr) (b:=iH A) MW o d os
   by_cases ho:ord (hold l ((a+b) / 2)) x<0
   ·go_wp2_with fail;refine dO (by kernel_rfl) (by kernel_rfl) ?_
    repeat(go_big_quiet_step ((go_at_call 197;refine fV (Qd (hold l ((a+b) / 2)) x _))))
    refine wpQuiet_nil ?_
    intro W2 hw';have hb2:=dN hw';clear hw';go_wp2_with fail;go_roundw
    case rel=>
     refine⟨(a+b) / 2+1,b,by omega,hbl,by go_num,rfl,λm hm=>?_,h2'.O,fD hbw hb2⟩
     exact hless.O m _ (by omega) (by omega) ho
    case measure=>simp[dY];omega
   ·have ho':0<=ord (hold l ((a+b) / 2)) x:=by omega
    go_wp2_with fail;refine dO (by kernel_rfl) (by kernel_rfl) ?_
    repeat(go_big_quiet_step ((go_at_call 197;refine fV (Qd (hold l ((a+b) / 2)) x _))))
    refine wpQuiet_nil ?_
    intro W2 hw';have hb2:=dN hw';clear hw';go_wp2_with fail;go_roundw
    case rel=>
     refine⟨a,(a+b) / 2,by omega,by omega,rfl,by go_num,h1'.O,λm hm hml=>?_,fD hbw hb2⟩
     exact Int.not_lt.1 λhn=>by have:=hless.O _ m hm hml hn;omega
    case measure=>simp[dY];omega
  ·obtain rfl:a=b:=by omega
   have wU:pos l x=a:=jlt hbl h1'.O h2'.O;have hpos':=ah wU;have hB:=fD hb0 hbw;by_cases hal:a<l.length
   ·have hBz:w.heap.size<wr.heap.size:=aJ hsz hbw.size;obtain⟨y0,y1,y2,y3⟩:wr.cell? w=some (.int .i64 x.aC)/\wr.cell? ⟨w.heap.size,1,none⟩=some (.int .i64 x.aK)/\wr.cell? ⟨w.heap.size,2,none⟩=some (.int .i64 x.bin)/\wr.cell? ⟨w.heap.size,3,none⟩=some (.int .i64 x.n):=
     ⟨(hbw.cell (p:=⟨_,_,none⟩) hsz).trans z0,(hbw.cell (p:=⟨_,_,none⟩) hsz).trans z1,(hbw.cell (p:=⟨_,_,none⟩) hsz).trans z2,(hbw.cell (p:=⟨_,_,none⟩) hsz).trans z3⟩
    obtain⟨hok,MW,b0,b1,b2,b3⟩:=(hA.up hB hB.size).hold hal;have q0:=λo d os=>cZ (w:=wr) (b:=w.heap.size) hBz o d os
    have qA:=λo d os=>cZ (w:=wr) (b:=iH A) MW o d os
    have hf:=ah (show Ap l x=(ord (hold l a) x==0)by
     unfold Ap;rw[wU,oD hal,lQ];rw[uH];simp)
    clear wU;go_wp2_with fail;refine dO (by kernel_rfl) (by kernel_rfl) ?_
    repeat(go_big_quiet_step ((go_at_call 197;refine fV (Qd (hold l a) x _))))
    refine wpQuiet_nil ?_
    intro W2 hw';have hb2:=dN hw';clear hw';go_wp2_with fail;go_ret2
    exact⟨jd9 (by rw[hpos'.O];rfl) (by rw[hf.O];rfl),fD hB hb2⟩
   ·have hf:=ah (show Ap l x=false by
     unfold Ap;rw[wU,iE hal,vZ])
    obtain rfl:a=l.length:=by omega
    clear wU hal;go_wp2_with fail;refine dO (by kernel_rfl) (by kernel_rfl) ?_
    repeat(go_big_quiet_step ((go_at_call 197;refine fV (Qd (hold l a) x _))))
    refine wpQuiet_nil ?_
    intro W2 hw';have hb2:=dN hw';clear hw';go_wp2_with fail;go_ret2
    exact⟨jd9 (by rw[hpos'.O];rfl) (by rw[hf.O];rfl),fD hB hb2⟩
theorem jjL(w:World)(v:Value)(l:List eX)(x:eX)(hv:Sl iD w w v l)(hok:iI l=true)(hn:l.length<=1000000):
  Calls prog 151 #[v,uK x] w λe w'=>e=.returned (.tuple #[(pos l x),.bool (Ap l x)])/\Below w w w':=by
 have hV:=hv;obtain⟨A,c,rfl,hl,hA⟩:=hv;have hok':=ah hok;clear hok;have hb0:Below w w (w.alloc (nC x)):=(aj _ _).alloc (ay _) _;unfold uK;go_enter func151,ntmps151
 go_wp2_with fail;refine(jh2 _ _ l x (hV.grow hb0) hok'.O hn).mono ?_
 rintro e W1 ⟨rfl,hb1⟩;go_wp2_with fail;go_ret2
 exact⟨jd9 rfl rfl,fD hb0 hb1⟩
end
section
attribute [local go_sem] aV
theorem jgn(w:World)(v vs:Value)(p:dG)(s:aI)(b g:Nat)(hp:kK w w v p)(hv:kG w w vs s)(hs:pz p s)(hb:b<p.dP.length)(hg:g<p.aW.length):
  Calls prog 105 #[v,vs,b,g] w λe w'=>e=.returned (.tuple #[.int .i64 ((p.bin b).high - (cell s.on b g+iC s b g)),.bool (decide (cell s.on b g+iC s b g<(p.bin b).low))])/\Below w w w':=by
 have hsn:=ah hs;have N9:b<s.on.length:=by rw[hs.sO];exact hb
 have hgl:g<(fO s.on b).length:=by rw[hs.rowLen hb];exact hg
 have hbi:(b:Int)<(s.on.length:Int):=by omega
 have hbp:(b:Int)<(p.dP.length:Int):=by omega
 have hgi:(g:Int)<((fO s.on b).length:Int):=by omega
 have t1:=hs.cell hb hg;have t2:=yh hs b g;have t3:0<=(p.bin b).high/\(p.bin b).high<=200:=(JC hs.plan hb).2.2;have hw1:IntKind.i64.wrap (cell s.on b g+iC s b g)=cell s.on b g+iC s b g:=aP _ (by omega)
 have hw2:IntKind.i64.wrap ((p.bin b).high - (cell s.on b g+iC s b g))=(p.bin b).high - (cell s.on b g+iC s b g):=aP _ (by omega)
 clear hs;obtain⟨Ab,cb,As,cs,rfl,hP',hBn,hSz,hlb,hls⟩:=o9 hp;obtain⟨A0,c0,A1,c1,A2,c2,A3,c3,A4,c4,A5,c5,A6,c6,rfl,hV,hN,hO,hH,hM,hI,hU,hX,hl0,hl1,hl2,hl3,hl4,hl5,Jb⟩:=lY hv;go_enter func105,ntmps105
 go_wp2_with fail;obtain⟨W0,hW0,hb0,kX,um,hsE,hK⟩:=uT w p s Ab cb As cs A0 c0 A1 c1 A2 c2 A3 c3 A4 c4 A5 c5 A6 c6;rw[hW0];clear hW0;obtain⟨⟨y0,y1⟩,x0,x1,x2,x3,x4,x5,x6,fB,fC⟩:=hK.O W0 (aj W0 W0);obtain⟨Ar,cr,or0,UN,Zp,wK⟩:=(hN.O W0 hb0).row N9;obtain⟨or1,lr1,RZ⟩:=wK.at_.int hgl;change W0.cell? _=some (.int .i64 (cell s.on b g))at RZ
 have q1:=λo d os=>cZ (w:=W0) (b:=w.heap.size+1) fB o d os
 have q2:=λo d os=>cZ (w:=W0) (b:=iH A0) UN o d os
 have q3:=λo d os=>cZ (w:=W0) (b:=iH Ar) lr1 o d os
 have hV2:=ah (λd os=>hV.O _ (hb0.trans ((kH W0 d os).mono hb0.size)))
 go_wp2_with fail;refine dO (by kernel_rfl) (by kernel_rfl) ?_
 repeat(go_big_quiet_step ((go_at_call 93;refine fV (VF _ _ p s b g (hV2.O _ _) hsn.O))))
 refine wpQuiet_nil ?_
 intro W1 hw';have hb1:=dN hw';clear hw';clear q1 q2 q3 hV2 or0 UN Zp wK or1 lr1 RZ;clear y0 y1 x0 x1 x2 x3 x4 x5 x6 fB fC;have hB1:=fD hb0 hb1;obtain⟨⟨y0,y1⟩,x0,x1,x2,x3,x4,x5,x6,fB,fC⟩:=hK.O W1 (hb1);obtain⟨ob,lb,e0,e1,e2,e3⟩:=(hBn.O W1 hB1).at_.bin hb;change W1.cell? _=some (.int .i64 (p.bin b).low)at e2
 change W1.cell? _=some (.int .i64 (p.bin b).high)at e3
 clear e0 e1;go_wp2_with fail;go_quiet (fail)
 have hBd:=below_drewN hB1 nq;go_wp2_with fail;exact bV (v:=.tuple #[.int .i64 ((p.bin b).high - (cell s.on b g+iC s b g)),.bool (decide (cell s.on b g+iC s b g<(p.bin b).low))]) (by simp[results,results105,go_sem]) rfl ⟨rfl,hBd⟩
end
end Wh
