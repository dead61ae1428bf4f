/- Texts of the claim, joined. -/
import Derived.IntWalk
import Derived.Deep.RegionHeld3
import Derived.Test.YtfhfkijmebhgmaaGreatK11
set_option maxHeartbeats 20000000
set_option maxRecDepth 100000
namespace Wh
open Go Go.RowKit Go.Shelf Go.Proofs Tryz
attribute [local go_sem] aT
theorem jmK(x:Line)(W:World):Calls prog 142 #[I5 x] W λe W'=>e=.returned (.bool (decide (x.oh<x.iw)))/\Below W.heap.size W W':=by
 have hb0:Below W.heap.size W (W.alloc (.cells #[.int .i64 (x).dh,.int .i64 (x).iw,.int .i64 (x).oh,.int .i64 (x).dP] 44)):=(aj _ _).alloc (au _) _;unfold I5;go_enter func142,ntmps142
 go_wp2_with fail;go_ret
 exact⟨rfl,hb0⟩
theorem jcr:Enters prog 142:=enters_of func142 (by kernel_rfl) rfl
theorem YM(s:aJ)(o k:Nat):
  (((s.aC o).dW==0)=true/\((s.aC o).dW==2)=false/\((s.aG o k).oh+(s.aG o k).dP+kept s.aA o k !=0)=true/\mM s o k=false)\/
  (((s.aC o).dW==0)=true/\((s.aC o).dW==2)=false/\((s.aG o k).oh+(s.aG o k).dP+kept s.aA o k !=0)=false/\mM s o k=true)\/
  (((s.aC o).dW==0)=false/\((s.aG o k).oh+(s.aG o k).dP+kept s.aA o k !=(s.aG o k).iw)=true/\mM s o k=false)\/
  (((s.aC o).dW==0)=false/\((s.aG o k).oh+(s.aG o k).dP+kept s.aA o k !=(s.aG o k).iw)=false/\((s.aC o).dW==2)=true/\decide (0<kept s.aA o k)=true/\mM s o k=false)\/
  (((s.aC o).dW==0)=false/\((s.aG o k).oh+(s.aG o k).dP+kept s.aA o k !=(s.aG o k).iw)=false/\((s.aC o).dW==2)=true/\decide (0<kept s.aA o k)=false/\mM s o k=true)\/
  (((s.aC o).dW==0)=false/\((s.aG o k).oh+(s.aG o k).dP+kept s.aA o k !=(s.aG o k).iw)=false/\((s.aC o).dW==2)=false/\mM s o k=true):=by
 unfold mM;by_cases h0:(s.aC o).dW=0
 ·by_cases h1:(s.aG o k).oh+(s.aG o k).dP+kept s.aA o k=0<;>simp[h0,h1]
 ·by_cases h1:(s.aG o k).oh+(s.aG o k).dP+kept s.aA o k=(s.aG o k).iw<;>by_cases h2:(s.aC o).dW=2<;>by_cases h3:0<kept s.aA o k<;>simp[h0,h1,h2,h3]
theorem Rq{l:List dZ}(h:iD l=true)(o ln:Int):Na l o ln=(kept l o ln,0):=by unfold Na;rw[h];rfl
theorem jke(w:World)(v vs:Value)(p:dA)(s:aJ)(hp:mW w w.heap.size v p)(hv:lK w w.heap.size vs s)(hs:o9 p s):
  Calls prog 79 #[v,vs] w λe w'=>e=.returned (.bool (Eu p s))/\Below w.heap.size w w':=by
 have hcnt:=hs.counts;have h4:=hs.qH;have h72:=su hs.aA;have zy:=ah hs;clear hs;obtain⟨Ab,cb,As,cs,rfl,hP',hBn,hSz,hlb,hls⟩:=sN hp;obtain⟨A0,c0,A1,c1,A2,c2,A3,c3,A4,c4,A5,c5,A6,c6,rfl,hV,hN,hO,hH,hM,hI,hU,hX,hl0,hl1,hl2,hl3,hl4,hl5,JA⟩:=oW hv;go_enter func79,ntmps79
 go_wp2_with fail;obtain⟨W0,hW0,hb0,lg,uZ,hsE,hK⟩:=Eh w p s Ab cb As cs A0 c0 A1 c1 A2 c2 A3 c3 A4 c4 A5 c5 A6 c6;rw[hW0];clear hW0;obtain⟨⟨y0,y1⟩,x0,x1,x2,x3,x4,x5,x6,eP,eU⟩:=hK.O W0 (aj W0.heap.size W0);go_loopw[19,5,6,7,8] (λi _ _ _ _ wr=>∃k:Nat,k<=p.aP.length/\i=.int .i64 k/\(∀j,j<k->wZ p s j=true)/\Below W0.heap.size W0 wr) (λi _ _ _ _ _=>p.aP.length - (RowKit.intOf i).toNat)
 case atStart=>exact⟨0,aK _,rfl,λj hj=>by omega,aj _ _⟩
 case round=>
  clear y0 y1 x0 x1 x2 x3 x4 x5 x6 eP eU;obtain⟨k,hk,rfl,kE,hbw⟩:=hrel;have hall':=ah kE;clear kE;have hB:=hb0.trans (hbw.mono hb0.size);obtain⟨⟨y0,y1⟩,x0,x1,x2,x3,x4,x5,x6,eP,eU⟩:=hK.O wr (hbw);by_cases hlt:k<p.aP.length
  ·have hI4:k<s.gY.length:=by rw[zy.O.gY.1];exact hlt
   have hI5:k<s.O.length:=by rw[zy.O.O.1];exact hlt
   have hI6:k<s.bg.length:=by rw[zy.O.bg.1];exact hlt
   obtain⟨i1,i2⟩:=zy.O.gY.2 hlt;obtain⟨u1,u2⟩:=zy.O.O.2 hlt;obtain⟨f1,f2⟩:=zy.O.bg.2 hlt;have e0:qW p s.on 0 k=0:=MW.2 ⟨zy.O.shelf,yT.2 (by omega),vN.2 (by omega)⟩
   have hSE:=ah (jeM e0);clear e0;go_wp2_with fail;refine(jg5 _ _ _ p s.on k (hP'.O wr hB) (hN.O wr hB)).mono ?_
   rintro e W1 ⟨rfl,hb1⟩;rw[hSE.O];clear y0 y1 x0 x1 x2 x3 x4 x5 x6 eP eU;have sF:=hbw.trans (hb1.mono hbw.size);have hB1:=hb0.trans (sF.mono hb0.size);obtain⟨⟨y0,y1⟩,x0,x1,x2,x3,x4,x5,x6,eP,eU⟩:=hK.O W1 (sF);obtain⟨o4,l4,r4⟩:=(hI.O W1 hB1).at_.int hI4;obtain⟨o5,l5,r5⟩:=(hU.O W1 hB1).at_.int hI5;obtain⟨o6,l6,r6⟩:=(hX.O W1 hB1).at_.int hI6;have q1:=λo d os=>bY (w:=W1) (b:=w.heap.size+1) eP o d os
   have q4:=λo d os=>bY (w:=W1) (b:=jd A4) l4 o d os
   have q5:=λo d os=>bY (w:=W1) (b:=jd A5) l5 o d os
   have q6:=λo d os=>bY (w:=W1) (b:=jd A6) l6 o d os
   have hw1:IntKind.i64.wrap (bI s.gY k - bI s.O k)=bI s.gY k - bI s.O k:=aN _ (by omega)
   have hw2:IntKind.i64.wrap (bI s.gY k - bI s.O k+bI s.bg k)=bI s.gY k - bI s.O k+bI s.bg k:=aN _ (by omega)
   have Ry:=ah hw1;have jm7:=ah hw2;clear hw1 hw2;by_cases hsum:BU s.on k=bI s.gY k - bI s.O k+bI s.bg k
   ·have hne:(BU s.on k !=bI s.gY k - bI s.O k+bI s.bg k)=false:=by simpa using hsum
    have jib:=ah hsum;have hw1:=Ry.O;have hw2:=jm7.O;clear hsum;go_wp2_with fail;refine dG (by kernel_rfl) (by kernel_rfl) ?_
    repeat(go_big_quiet_step (fail))
    refine wpQuiet_nil ?_
    intro W2 hw';have hb2:=dD hw';clear hw';clear q1 q4 q5 q6 hw1 hw2 hne;clear y0 y1 x0 x1 x2 x3 x4 x5 x6 eP eU;have hbw2:=sF.trans (hb2.mono sF.size);have hB2:=hb0.trans (hbw2.mono hb0.size);obtain⟨⟨y0,y1⟩,x0,x1,x2,x3,x4,x5,x6,eP,eU⟩:=hK.O W2 (hbw2);go_wp2_with fail;go_loopw[52,8] (λi _ wr=>∃m:Nat,m<=p.bQ.length/\i=.int .i64 m/\(∀j,j<m->bound s j k<=cell s.on j k)/\Below W0.heap.size W0 wr) (λi _ _=>p.bQ.length - (RowKit.intOf i).toNat)
    case atStart=>exact⟨0,aK _,rfl,λj hj=>by omega,hbw2⟩
    case round=>
     clear y0 y1 x0 x1 x2 x3 x4 x5 x6 eP eU;clear r4 r5 r6 hbw hb1 hB sF hB1 hb2 hbw2 hB2;obtain⟨m,hm,rfl,zA,hbw⟩:=hrel;have pO:=ah zA;clear zA;have hB:=hb0.trans (hbw.mono hb0.size);obtain⟨⟨y0,y1⟩,x0,x1,x2,x3,x4,x5,x6,eP,eU⟩:=hK.O wr (hbw);by_cases hml:m<p.bQ.length
     ·have hml':m<s.on.length:=by rw[zy.O.tY];exact hml
      have hkr:k<(fO s.on m).length:=by rw[zy.O.rowLen hml];exact hlt
      obtain⟨Ar,cr,or0,TQ,Yx,vS⟩:=(hN.O wr hB).row hml';obtain⟨or1,lr1,QW⟩:=vS.at_.int hkr;have q1:=λo d os=>bY (w:=wr) (b:=w.heap.size+1) eP o d os
      have q2:=λo d os=>bY (w:=wr) (b:=jd A0) TQ o d os
      have q3:=λo d os=>bY (w:=wr) (b:=jd Ar) lr1 o d os
      have hV2:=ah (λd os=>hV.O _ (hB.trans ((kW wr d os).mono hB.size)))
      have hcl:bI (fO s.on m) k=cell s.on m k:=rfl;have hcl':=ah hcl;clear hcl;by_cases hbd:bound s m k<=cell s.on m k
      ·have hd:decide (bI (fO s.on m) k<bound s m k)=false:=by rw[hcl'.O];simpa using hbd
       have jn1:=ah hbd;clear hbd;go_wp2_with fail;refine dG (by kernel_rfl) (by kernel_rfl) ?_
       repeat(go_big_quiet_step ((go_at_call 62;refine gI (Zt _ _ p s _ _ (hV2.O _ _) zy.O))))
       refine wpQuiet_nil ?_
       intro W2 hw';have hb2:=dD hw';clear hw';clear q1 q2 q3;go_wp2_with fail;go_roundw
       case rel=>
        refine⟨m+1,by omega,by go_num,λj hj=>?_,hbw.trans (hb2.mono hbw.size)⟩
        rcases aS.1 hj with h|rfl
        ·exact pO.O j h
        ·exact jn1.O
       case measure=>simp[RowKit.intOf];omega
      ·have hd:decide (bI (fO s.on m) k<bound s m k)=true:=by rw[hcl'.O];simpa using hbd
       have bK:=ah (JH hlt (Oj hml (show cell s.on m k<bound s m k by omega)))
       clear hbd;go_wp2_with fail;refine dG (by kernel_rfl) (by kernel_rfl) ?_
       repeat(go_big_quiet_step ((go_at_call 62;refine gI (Zt _ _ p s _ _ (hV2.O _ _) zy.O))))
       refine wpQuiet_nil ?_
       intro W2 hw';have hb2:=dD hw';clear hw';clear q1 q2 q3;go_wp2_with fail;go_ret
       exact⟨fK (by rw[bK.O]),hB.trans (hb2.mono hB.size)⟩
     ·obtain rfl:m=p.bQ.length:=by omega
      go_wp2_with fail;go_roundw
      case rel=>
       refine⟨k+1,by omega,by go_num,λj hj=>?_,hbw⟩
       rcases aS.1 hj with h|rfl
       ·exact hall'.O j h
       ·exact yA.2 ⟨jib.O,pO.O⟩
      case measure=>simp[RowKit.intOf];omega
   ·have hne:(BU s.on k !=bI s.gY k - bI s.O k+bI s.bg k)=true:=by simpa using hsum
    have bK:=ah (JH hlt (Oi hsum));have hw1:=Ry.O;have hw2:=jm7.O;clear hsum;go_wp2_with fail;refine dG (by kernel_rfl) (by kernel_rfl) ?_
    repeat(go_big_quiet_step (fail))
    refine wpQuiet_nil ?_
    intro W2 hw';have hb2:=dD hw';clear hw';clear q1 q4 q5 q6 hw1 hw2 hne;go_wp2_with fail;go_ret
    exact⟨fK (by rw[bK.O]),hB1.trans (hb2.mono hB1.size)⟩
  ·obtain rfl:k=p.aP.length:=by omega
   go_wp2_with fail;go_loopw[73,9,10,11,12,13,14,15] (λi _ _ _ _ _ _ _ wr=>∃k:Nat,k<=s.ak.length/\i=.int .i64 k/\(∀j,j<k->wI s j=true)/\Below W0.heap.size W0 wr) (λi _ _ _ _ _ _ _ _=>s.ak.length - (RowKit.intOf i).toNat)
   case atStart=>exact⟨0,aK _,rfl,λj hj=>by omega,hbw⟩
   case round=>
    clear y0 y1 x0 x1 x2 x3 x4 x5 x6 eP eU;clear hbw hB;obtain⟨k,hk,rfl,jb8,hbw⟩:=hrel;have QF:=ah jb8;clear jb8;have hB:=hb0.trans (hbw.mono hb0.size);obtain⟨⟨y0,y1⟩,x0,x1,x2,x3,x4,x5,x6,eP,eU⟩:=hK.O wr (hbw);by_cases hlt:k<s.ak.length
    ·obtain⟨A',c',Jh,Gs,d0,d1,hsl⟩:=(hO.O wr hB).aC hlt;obtain⟨l1,l3⟩:=zy.O.tN hlt;change 1<=(aU s.ak k).aH.length at l1
     change(aU s.ak k).aH.length<=3 at l3
     have hba:Below W0.heap.size W0 (wr.alloc (.cells #[.int .i64 (aU s.ak k).dW,.slice A' (aU s.ak k).aH.length c'] 42)):=hbw.alloc hbw.size _;have hwa:Below wr.heap.size wr (wr.alloc (.cells #[.int .i64 (aU s.ak k).dW,.slice A' (aU s.ak k).aH.length c'] 42)):=(aj _ _).alloc (au _) _;have hla:wr.heap.size<(wr.alloc (.cells #[.int .i64 (aU s.ak k).dW,.slice A' (aU s.ak k).aH.length c'] 42)).heap.size:=by simp
     have hzo:(wr.alloc (.cells #[.int .i64 (aU s.ak k).dW,.slice A' (aU s.ak k).aH.length c'] 42)).cell? ⟨wr.heap.size,0,none⟩=some (.int .i64 (aU s.ak k).dW)/\
       (wr.alloc (.cells #[.int .i64 (aU s.ak k).dW,.slice A' (aU s.ak k).aH.length c'] 42)).cell? ⟨wr.heap.size,1,none⟩=some (.slice A' (aU s.ak k).aH.length c'):=by simp
     have jdL:=ah hzo;clear hzo;by_cases hk1:(aU s.ak k).dW=1
     ·have hq:((aU s.ak k).dW==1)=true:=by simpa using hk1
      have jgb:=ah hk1;clear hk1;go_wp2_with fail;refine(xO _ _ (aU s.ak k).aH 142 #[] (λx=>decide (x.oh<x.iw)) jcr (hsl.grow hwa) (λj _ W hW=>jmK _ W)).mono ?_
      rintro e W2 ⟨rfl,hb2⟩;have hag:=Xq zy.O hlt;change((aU s.ak k).aH.any λx=>decide (x.oh<x.iw))=_ at hag
      rw[hag];clear hag;cases Ky:oZ (s.aC k)
      ·have hng:=ah (show ¬((s.aC k).dW=1/\oZ (s.aC k)=true)by rw[Ky];simp)
       have hbk:=hba.trans (hb2.mono hba.size);have hlk:wr.heap.size<W2.heap.size:=aI hla hb2.size;have zo0:=(hb2.cell (p:=⟨wr.heap.size,0,none⟩) hla).trans jdL.O.1;have zo1:=(hb2.cell (p:=⟨wr.heap.size,1,none⟩) hla).trans jdL.O.2;have hLs:=ah (hsl.grow (hwa.trans (hb2.mono hwa.size)));clear Ky hba hwa hla jdL hsl d0 d1;go_wp2_with fail;clear hq hb2;clear y0 y1 x0 x1 x2 x3 x4 x5 x6 eP eU;obtain⟨wo,hwo⟩:∃n:Nat,n=wr.heap.size:=⟨_,rfl⟩;rw[<- hwo]at hlk zo0 zo1
       rw[<- hwo];clear hwo;clear hbw hB;go_loopw[90,11,12,13,14,15] (λi _ _ _ _ _ wr=>∃m:Nat,m<=(aU s.ak k).aH.length/\i=.int .i64 m/\(∀j,j<m->mM s k j=true)/\Below W2.heap.size W2 wr) (λi _ _ _ _ _ _=>(aU s.ak k).aH.length - (RowKit.intOf i).toNat)
       case atStart=>exact⟨0,aK _,rfl,λj hj=>by omega,aj _ _⟩
       case round=>
        obtain⟨m,hm,rfl,zA,hbl⟩:=hrel;have pO:=ah zA;clear zA;have hbw:=hbk.trans (hbl.mono hbk.size);have hB:=hb0.trans (hbw.mono hb0.size);obtain⟨⟨y0,y1⟩,x0,x1,x2,x3,x4,x5,x6,eP,eU⟩:=hK.O wr (hbw);have w0:=(hbl.cell (p:=⟨wo,0,none⟩) hlk).trans zo0;have w1:=(hbl.cell (p:=⟨wo,1,none⟩) hlk).trans zo1;have hlw:=aI hlk hbl.size;by_cases hml:m<(aU s.ak k).aH.length
        ·obtain⟨hok2,PD,e0,e1,e2,e3⟩:=(hLs.O.grow hbl).at_.aG hml;have hl:gK (aU s.ak k).aH m=s.aG k m:=rfl;rw[hl]at e0 e1 e2 e3
         clear hl;obtain⟨_,⟨b1,b2⟩,⟨b3,b4⟩,b5,b6⟩:=zy.O.aG hlt hml;obtain⟨b7,b8⟩:=vK zy.O.aA k m;have jnE:=ah (show(Na s.aA k m).1=kept s.aA k m by rw[Rq zy.O.aA])
         have hke2:=ah (show(Na s.aA k m).2=0 by rw[Rq zy.O.aA])
         have Oc:Below W2.heap.size W2 (wr.alloc (.cells #[.int .i64 (s.aG k m).dh,.int .i64 (s.aG k m).iw,.int .i64 (s.aG k m).oh,.int .i64 (s.aG k m).dP] 44)):=hbl.alloc hbl.size _;have jd0:wr.heap.size<(wr.alloc (.cells #[.int .i64 (s.aG k m).dh,.int .i64 (s.aG k m).iw,.int .i64 (s.aG k m).oh,.int .i64 (s.aG k m).dP] 44)).heap.size:=by simp
         have hzl:(wr.alloc (.cells #[.int .i64 (s.aG k m).dh,.int .i64 (s.aG k m).iw,.int .i64 (s.aG k m).oh,.int .i64 (s.aG k m).dP] 44)).cell? ⟨wr.heap.size,1,none⟩=some (.int .i64 (s.aG k m).iw)/\(wr.alloc (.cells #[.int .i64 (s.aG k m).dh,.int .i64 (s.aG k m).iw,.int .i64 (s.aG k m).oh,.int .i64 (s.aG k m).dP] 44)).cell? ⟨wr.heap.size,2,none⟩=some (.int .i64 (s.aG k m).oh)/\(wr.alloc (.cells #[.int .i64 (s.aG k m).dh,.int .i64 (s.aG k m).iw,.int .i64 (s.aG k m).oh,.int .i64 (s.aG k m).dP] 44)).cell? ⟨wr.heap.size,3,none⟩=some (.int .i64 (s.aG k m).dP):=by simp
         have jdM:=ah hzl;have sF:=hbk.trans (Oc.mono hbk.size);have hB1:=hb0.trans (sF.mono hb0.size);clear hzl;go_wp2_with fail;refine(jiL _ _ s.aA k m (hH.O _ hB1)).mono ?_
         rintro e W3 ⟨rfl,hb3⟩;rw[jnE.O,hke2.O];have H6:=Oc.trans (hb3.mono Oc.size);have hbw3:=hbk.trans (H6.mono hbk.size);have z0:=(H6.cell (p:=⟨wo,0,none⟩) hlk).trans zo0;have z1:=(hb3.cell (p:=⟨wr.heap.size,1,none⟩) jd0).trans jdM.O.1;have z2:=(hb3.cell (p:=⟨wr.heap.size,2,none⟩) jd0).trans jdM.O.2.1;have z3:=(hb3.cell (p:=⟨wr.heap.size,3,none⟩) jd0).trans jdM.O.2.2;clear e0 e1 e2 e3 w0 w1;clear y0 y1 x0 x1 x2 x3 x4 x5 x6 eP eU;have hparts:=YM s k m;unfold aJ.aC at hparts
         rcases hparts with⟨g1,g2,g3,hf⟩|⟨g1,g2,g3,hf⟩|⟨g1,g2,hf⟩|⟨g1,g2,g3,g4,hf⟩|⟨g1,g2,g3,g4,hf⟩|⟨g1,g2,g3,hf⟩
         ·have bK:=ah (qF (p:=p) hlt (nS hml hf));clear hf;go_wp2_with fail;go_ret
          exact⟨fK (by rw[bK.O]),hb0.trans (hbw3.mono hb0.size)⟩
         ·have hf':=ah hf;clear hf;go_wp2_with fail;go_roundw
          case rel=>
           refine⟨m+1,by omega,by go_num,λj hj=>?_,H6⟩
           rcases aS.1 hj with h|rfl
           ·exact pO.O j h
           ·exact hf'.O
          case measure=>simp[RowKit.intOf];omega
         ·have bK:=ah (qF (p:=p) hlt (nS hml hf));clear hf;go_wp2_with fail;go_ret
          exact⟨fK (by rw[bK.O]),hb0.trans (hbw3.mono hb0.size)⟩
         ·have bK:=ah (qF (p:=p) hlt (nS hml hf));clear hf;go_wp2_with fail;go_ret
          exact⟨fK (by rw[bK.O]),hb0.trans (hbw3.mono hb0.size)⟩
         ·have hf':=ah hf;clear hf;go_wp2_with fail;go_roundw
          case rel=>
           refine⟨m+1,by omega,by go_num,λj hj=>?_,H6⟩
           rcases aS.1 hj with h|rfl
           ·exact pO.O j h
           ·exact hf'.O
          case measure=>simp[RowKit.intOf];omega
         ·have hf':=ah hf;clear hf;go_wp2_with fail;go_roundw
          case rel=>
           refine⟨m+1,by omega,by go_num,λj hj=>?_,H6⟩
           rcases aS.1 hj with h|rfl
           ·exact pO.O j h
           ·exact hf'.O
          case measure=>simp[RowKit.intOf];omega
        ·obtain rfl:m=(aU s.ak k).aH.length:=by omega
         go_wp2_with fail;go_roundw
         case rel=>
          refine⟨k+1,by omega,by go_num,λj hj=>?_,hbw⟩
          rcases aS.1 hj with h|rfl
          ·exact QF.O j h
          ·exact sJ.2 ⟨hng.O,pO.O⟩
         case measure=>simp[RowKit.intOf];omega
      ·have bK:=ah (qF (p:=p) hlt (MX jgb.O Ky));clear Ky;go_wp2_with fail;go_ret
       exact⟨fK (by rw[bK.O]),hb0.trans ((hba.trans (hb2.mono hba.size)).mono hb0.size)⟩
     ·have hq:((aU s.ak k).dW==1)=false:=by simpa using hk1
      have hng:=ah (show ¬((s.aC k).dW=1/\oZ (s.aC k)=true)from λh=>hk1 h.1)
      clear hk1;go_wp2_with fail;clear hq;generalize hW2:wr.alloc (.cells #[.int .i64 (aU s.ak k).dW,.slice A' (aU s.ak k).aH.length c'] 42)=W2 at hba hwa hla jdL ⊢
      have hbk:=hba;have hlk:=hla;have zo0:=jdL.O.1;have zo1:=jdL.O.2;have hLs:=ah (hsl.grow hwa);clear hba hwa hla jdL hsl d0 d1 hW2;clear y0 y1 x0 x1 x2 x3 x4 x5 x6 eP eU;obtain⟨wo,hwo⟩:∃n:Nat,n=wr.heap.size:=⟨_,rfl⟩;rw[<- hwo]at hlk zo0 zo1
      rw[<- hwo];clear hwo;clear hbw hB;go_loopw[90,11,12,13,14,15] (λi _ _ _ _ _ wr=>∃m:Nat,m<=(aU s.ak k).aH.length/\i=.int .i64 m/\(∀j,j<m->mM s k j=true)/\Below W2.heap.size W2 wr) (λi _ _ _ _ _ _=>(aU s.ak k).aH.length - (RowKit.intOf i).toNat)
      case atStart=>exact⟨0,aK _,rfl,λj hj=>by omega,aj _ _⟩
      case round=>
       obtain⟨m,hm,rfl,zA,hbl⟩:=hrel;have pO:=ah zA;clear zA;have hbw:=hbk.trans (hbl.mono hbk.size);have hB:=hb0.trans (hbw.mono hb0.size);obtain⟨⟨y0,y1⟩,x0,x1,x2,x3,x4,x5,x6,eP,eU⟩:=hK.O wr (hbw);have w0:=(hbl.cell (p:=⟨wo,0,none⟩) hlk).trans zo0;have w1:=(hbl.cell (p:=⟨wo,1,none⟩) hlk).trans zo1;have hlw:=aI hlk hbl.size;by_cases hml:m<(aU s.ak k).aH.length
       ·obtain⟨hok2,PD,e0,e1,e2,e3⟩:=(hLs.O.grow hbl).at_.aG hml;have hl:gK (aU s.ak k).aH m=s.aG k m:=rfl;rw[hl]at e0 e1 e2 e3
        clear hl;obtain⟨_,⟨b1,b2⟩,⟨b3,b4⟩,b5,b6⟩:=zy.O.aG hlt hml;obtain⟨b7,b8⟩:=vK zy.O.aA k m;have jnE:=ah (show(Na s.aA k m).1=kept s.aA k m by rw[Rq zy.O.aA])
        have hke2:=ah (show(Na s.aA k m).2=0 by rw[Rq zy.O.aA])
        have Oc:Below W2.heap.size W2 (wr.alloc (.cells #[.int .i64 (s.aG k m).dh,.int .i64 (s.aG k m).iw,.int .i64 (s.aG k m).oh,.int .i64 (s.aG k m).dP] 44)):=hbl.alloc hbl.size _;have jd0:wr.heap.size<(wr.alloc (.cells #[.int .i64 (s.aG k m).dh,.int .i64 (s.aG k m).iw,.int .i64 (s.aG k m).oh,.int .i64 (s.aG k m).dP] 44)).heap.size:=by simp
        have hzl:(wr.alloc (.cells #[.int .i64 (s.aG k m).dh,.int .i64 (s.aG k m).iw,.int .i64 (s.aG k m).oh,.int .i64 (s.aG k m).dP] 44)).cell? ⟨wr.heap.size,1,none⟩=some (.int .i64 (s.aG k m).iw)/\(wr.alloc (.cells #[.int .i64 (s.aG k m).dh,.int .i64 (s.aG k m).iw,.int .i64 (s.aG k m).oh,.int .i64 (s.aG k m).dP] 44)).cell? ⟨wr.heap.size,2,none⟩=some (.int .i64 (s.aG k m).oh)/\(wr.alloc (.cells #[.int .i64 (s.aG k m).dh,.int .i64 (s.aG k m).iw,.int .i64 (s.aG k m).oh,.int .i64 (s.aG k m).dP] 44)).cell? ⟨wr.heap.size,3,none⟩=some (.int .i64 (s.aG k m).dP):=by simp
        have jdM:=ah hzl;have sF:=hbk.trans (Oc.mono hbk.size);have hB1:=hb0.trans (sF.mono hb0.size);clear hzl;go_wp2_with fail;refine(jiL _ _ s.aA k m (hH.O _ hB1)).mono ?_
        rintro e W3 ⟨rfl,hb3⟩;rw[jnE.O,hke2.O];have H6:=Oc.trans (hb3.mono Oc.size);have hbw3:=hbk.trans (H6.mono hbk.size);have z0:=(H6.cell (p:=⟨wo,0,none⟩) hlk).trans zo0;have z1:=(hb3.cell (p:=⟨wr.heap.size,1,none⟩) jd0).trans jdM.O.1;have z2:=(hb3.cell (p:=⟨wr.heap.size,2,none⟩) jd0).trans jdM.O.2.1;have z3:=(hb3.cell (p:=⟨wr.heap.size,3,none⟩) jd0).trans jdM.O.2.2;clear e0 e1 e2 e3 w0 w1;clear y0 y1 x0 x1 x2 x3 x4 x5 x6 eP eU;have hparts:=YM s k m;unfold aJ.aC at hparts
        rcases hparts with⟨g1,g2,g3,hf⟩|⟨g1,g2,g3,hf⟩|⟨g1,g2,hf⟩|⟨g1,g2,g3,g4,hf⟩|⟨g1,g2,g3,g4,hf⟩|⟨g1,g2,g3,hf⟩
        ·have bK:=ah (qF (p:=p) hlt (nS hml hf));clear hf;go_wp2_with fail;go_ret
         exact⟨fK (by rw[bK.O]),hb0.trans (hbw3.mono hb0.size)⟩
        ·have hf':=ah hf;clear hf;go_wp2_with fail;go_roundw
         case rel=>
          refine⟨m+1,by omega,by go_num,λj hj=>?_,H6⟩
          rcases aS.1 hj with h|rfl
          ·exact pO.O j h
          ·exact hf'.O
         case measure=>simp[RowKit.intOf];omega
        ·have bK:=ah (qF (p:=p) hlt (nS hml hf));clear hf;go_wp2_with fail;go_ret
         exact⟨fK (by rw[bK.O]),hb0.trans (hbw3.mono hb0.size)⟩
        ·have bK:=ah (qF (p:=p) hlt (nS hml hf));clear hf;go_wp2_with fail;go_ret
         exact⟨fK (by rw[bK.O]),hb0.trans (hbw3.mono hb0.size)⟩
        ·have hf':=ah hf;clear hf;go_wp2_with fail;go_roundw
         case rel=>
          refine⟨m+1,by omega,by go_num,λj hj=>?_,H6⟩
          rcases aS.1 hj with h|rfl
          ·exact pO.O j h
          ·exact hf'.O
         case measure=>simp[RowKit.intOf];omega
        ·have hf':=ah hf;clear hf;go_wp2_with fail;go_roundw
         case rel=>
          refine⟨m+1,by omega,by go_num,λj hj=>?_,H6⟩
          rcases aS.1 hj with h|rfl
          ·exact pO.O j h
          ·exact hf'.O
         case measure=>simp[RowKit.intOf];omega
       ·obtain rfl:m=(aU s.ak k).aH.length:=by omega
        go_wp2_with fail;go_roundw
        case rel=>
         refine⟨k+1,by omega,by go_num,λj hj=>?_,hbw⟩
         rcases aS.1 hj with h|rfl
         ·exact QF.O j h
         ·exact sJ.2 ⟨hng.O,pO.O⟩
        case measure=>simp[RowKit.intOf];omega
    ·obtain rfl:k=s.ak.length:=by omega
     have bK:=ah (Qk.2 ⟨hall'.O,QF.O⟩);go_wp2_with fail;go_ret
     exact⟨fK (by rw[bK.O]),hB⟩
end Wh
namespace Wh
open Go Go.RowKit Go.Shelf Go.Proofs Tryz
attribute [local go_sem] aT
theorem VR(s:aJ)(o k:Nat)(h:0<=kept s.aA o k):
  (((s.aC o).dW==0)=true/\((s.aC o).dW !=0)=false/\((s.aC o).dW==2)=false/\((s.aG o k).oh+(s.aG o k).dP+kept s.aA o k !=0)=true/\mM s o k=false)\/
  (((s.aC o).dW==0)=true/\((s.aC o).dW !=0)=false/\((s.aC o).dW==2)=false/\((s.aG o k).oh+(s.aG o k).dP+kept s.aA o k !=0)=false/\mM s o k=true)\/
  (((s.aC o).dW==0)=false/\((s.aC o).dW !=0)=true/\((s.aG o k).oh+(s.aG o k).dP+kept s.aA o k !=(s.aG o k).iw)=true/\mM s o k=false)\/
  (((s.aC o).dW==0)=false/\((s.aC o).dW !=0)=true/\((s.aG o k).oh+(s.aG o k).dP+kept s.aA o k !=(s.aG o k).iw)=false/\((s.aC o).dW==2)=true/\(kept s.aA o k !=0)=true/\mM s o k=false)\/
  (((s.aC o).dW==0)=false/\((s.aC o).dW !=0)=true/\((s.aG o k).oh+(s.aG o k).dP+kept s.aA o k !=(s.aG o k).iw)=false/\((s.aC o).dW==2)=true/\(kept s.aA o k !=0)=false/\mM s o k=true)\/
  (((s.aC o).dW==0)=false/\((s.aC o).dW !=0)=true/\((s.aG o k).oh+(s.aG o k).dP+kept s.aA o k !=(s.aG o k).iw)=false/\((s.aC o).dW==2)=false/\mM s o k=true):=by
 unfold mM;have h3:0<kept s.aA o k↔¬kept s.aA o k=0:=by omega
 by_cases h0:(s.aC o).dW=0
 ·by_cases h1:(s.aG o k).oh+(s.aG o k).dP+kept s.aA o k=0<;>simp[h0,h1]
 ·by_cases h1:(s.aG o k).oh+(s.aG o k).dP+kept s.aA o k=(s.aG o k).iw<;>by_cases h2:(s.aC o).dW=2<;>by_cases h3':kept s.aA o k=0<;>simp[h0,h1,h2,h3,h3']<;>omega
def JY(o:Order)(k:Nat):Bool:=(o.aH.take k).all λx=>decide (x.oh=x.iw)
theorem WJ{o:Order}{k:Nat}(h:k<o.aH.length):JY o (k+1)=(JY o k&&decide ((gK o.aH k).oh=(gK o.aH k).iw)):=by
 unfold JY;rw[dO h,AB,qw h];simp
theorem YZ(o:Order):JY o o.aH.length=oZ o:=by unfold JY oZ;rw[fG]
theorem jkk(w:World)(v vs:Value)(p:dA)(s:aJ)(hp:mW w w.heap.size v p)(hv:lK w w.heap.size vs s)(hs:o9 p s):
  Calls prog 40 #[v,vs] w λe w'=>e=.returned (.bool (Eu p s))/\Below w.heap.size w w':=by
 have hcnt:=hs.counts;have h4:=hs.qH;have h72:=su hs.aA;have zy:=ah hs;clear hs;obtain⟨Ab,cb,As,cs,rfl,hP',hBn,hSz,hlb,hls⟩:=sN hp;obtain⟨A0,c0,A1,c1,A2,c2,A3,c3,A4,c4,A5,c5,A6,c6,rfl,hV,hN,hO,hH,hM,hI,hU,hX,hl0,hl1,hl2,hl3,hl4,hl5,JA⟩:=oW hv;go_enter func40,ntmps40
 go_wp2_with fail;obtain⟨W0,hW0,hb0,lg,uZ,hsE,hK⟩:=Eh w p s Ab cb As cs A0 c0 A1 c1 A2 c2 A3 c3 A4 c4 A5 c5 A6 c6;rw[hW0];clear hW0;obtain⟨⟨y0,y1⟩,x0,x1,x2,x3,x4,x5,x6,eP,eU⟩:=hK.O W0 (aj W0.heap.size W0);go_loopw[5,6] (λi _ wr=>∃k:Nat,k<=p.aP.length/\i=.int .i64 k/\(∀j,j<k->wZ p s j=true)/\Below W0.heap.size W0 wr) (λi _ _=>p.aP.length - (RowKit.intOf i).toNat)
 case atStart=>exact⟨0,aK _,rfl,λj hj=>by omega,aj _ _⟩
 case round=>
  clear y0 y1 x0 x1 x2 x3 x4 x5 x6 eP eU;obtain⟨k,hk,rfl,kE,hbw⟩:=hrel;have hall':=ah kE;clear kE;have hB:=hb0.trans (hbw.mono hb0.size);obtain⟨⟨y0,y1⟩,x0,x1,x2,x3,x4,x5,x6,eP,eU⟩:=hK.O wr (hbw);by_cases hlt:k<p.aP.length
  ·have hI4:k<s.gY.length:=by rw[zy.O.gY.1];exact hlt
   have hI5:k<s.O.length:=by rw[zy.O.O.1];exact hlt
   have hI6:k<s.bg.length:=by rw[zy.O.bg.1];exact hlt
   obtain⟨i1,i2⟩:=zy.O.gY.2 hlt;obtain⟨u1,u2⟩:=zy.O.O.2 hlt;obtain⟨f1,f2⟩:=zy.O.bg.2 hlt;obtain⟨o4,l4,r4⟩:=(hI.O wr hB).at_.int hI4;obtain⟨o5,l5,r5⟩:=(hU.O wr hB).at_.int hI5;obtain⟨o6,l6,r6⟩:=(hX.O wr hB).at_.int hI6;have q1:=λo d os=>bY (w:=wr) (b:=w.heap.size+1) eP o d os
   have q4:=λo d os=>bY (w:=wr) (b:=jd A4) l4 o d os
   have q5:=λo d os=>bY (w:=wr) (b:=jd A5) l5 o d os
   have q6:=λo d os=>bY (w:=wr) (b:=jd A6) l6 o d os
   have hN2:=ah (λd os=>hN.O _ (hB.trans ((kW wr d os).mono hB.size)))
   have hw1:IntKind.i64.wrap (bI s.gY k - bI s.O k)=bI s.gY k - bI s.O k:=aN _ (by omega)
   have hw2:IntKind.i64.wrap (bI s.gY k - bI s.O k+bI s.bg k)=bI s.gY k - bI s.O k+bI s.bg k:=aN _ (by omega)
   by_cases hsum:BU s.on k=bI s.gY k - bI s.O k+bI s.bg k
   ·have hne:(BU s.on k !=bI s.gY k - bI s.O k+bI s.bg k)=false:=by simpa using hsum
    have jib:=ah hsum;clear hsum;go_wp2_with fail;refine dG (by kernel_rfl) (by kernel_rfl) ?_
    repeat(go_big_quiet_step ((go_at_call 91;refine Dn (jhm _ _ p _ k (hN2.O _ _) zy.O.shelf hlt))))
    refine wpQuiet_nil ?_
    intro W2 hw';have hb2:=dD hw';clear hw';clear q1 q4 q5 q6 hw1 hw2 hne;clear y0 y1 x0 x1 x2 x3 x4 x5 x6 eP eU;have hbw2:=hbw.trans (hb2.mono hbw.size);have hB2:=hb0.trans (hbw2.mono hb0.size);obtain⟨⟨y0,y1⟩,x0,x1,x2,x3,x4,x5,x6,eP,eU⟩:=hK.O W2 (hbw2);go_wp2_with fail;go_loopw[6] (λi wr=>∃m:Nat,m<=p.bQ.length/\i=.int .i64 m/\(∀j,j<m->bound s j k<=cell s.on j k)/\Below W0.heap.size W0 wr) (λi _=>p.bQ.length - (RowKit.intOf i).toNat)
    case atStart=>exact⟨0,aK _,rfl,λj hj=>by omega,hbw2⟩
    case round=>
     clear y0 y1 x0 x1 x2 x3 x4 x5 x6 eP eU;clear r4 r5 r6 hbw hB hb2 hbw2 hB2;obtain⟨m,hm,rfl,zA,hbw⟩:=hrel;have pO:=ah zA;clear zA;have hB:=hb0.trans (hbw.mono hb0.size);obtain⟨⟨y0,y1⟩,x0,x1,x2,x3,x4,x5,x6,eP,eU⟩:=hK.O wr (hbw);by_cases hml:m<p.bQ.length
     ·have hml':m<s.on.length:=by rw[zy.O.tY];exact hml
      have hkr:k<(fO s.on m).length:=by rw[zy.O.rowLen hml];exact hlt
      obtain⟨Ar,cr,or0,TQ,Yx,vS⟩:=(hN.O wr hB).row hml';obtain⟨or1,lr1,QW⟩:=vS.at_.int hkr;have q1:=λo d os=>bY (w:=wr) (b:=w.heap.size+1) eP o d os
      have q2:=λo d os=>bY (w:=wr) (b:=jd A0) TQ o d os
      have q3:=λo d os=>bY (w:=wr) (b:=jd Ar) lr1 o d os
      have hV2:=ah (λd os=>hV.O _ (hB.trans ((kW wr d os).mono hB.size)))
      have hcl:bI (fO s.on m) k=cell s.on m k:=rfl;have hcl':=ah hcl;clear hcl;by_cases hbd:bound s m k<=cell s.on m k
      ·have hd:decide (bI (fO s.on m) k<bound s m k)=false:=by rw[hcl'.O];simpa using hbd
       have jn1:=ah hbd;clear hbd;go_wp2_with fail;refine dG (by kernel_rfl) (by kernel_rfl) ?_
       repeat(go_big_quiet_step ((go_at_call 70;refine gI (ZA _ _ p s _ _ (hV2.O _ _) zy.O))))
       refine wpQuiet_nil ?_
       intro W2 hw';have hb2:=dD hw';clear hw';clear q1 q2 q3;go_wp2_with fail;go_roundw
       case rel=>
        refine⟨m+1,by omega,by go_num,λj hj=>?_,hbw.trans (hb2.mono hbw.size)⟩
        rcases aS.1 hj with h|rfl
        ·exact pO.O j h
        ·exact jn1.O
       case measure=>simp[RowKit.intOf];omega
      ·have hd:decide (bI (fO s.on m) k<bound s m k)=true:=by rw[hcl'.O];simpa using hbd
       have bK:=ah (JH hlt (Oj hml (show cell s.on m k<bound s m k by omega)))
       clear hbd;go_wp2_with fail;refine dG (by kernel_rfl) (by kernel_rfl) ?_
       repeat(go_big_quiet_step ((go_at_call 70;refine gI (ZA _ _ p s _ _ (hV2.O _ _) zy.O))))
       refine wpQuiet_nil ?_
       intro W2 hw';have hb2:=dD hw';clear hw';clear q1 q2 q3;go_wp2_with fail;go_ret
       exact⟨fK (by rw[bK.O]),hB.trans (hb2.mono hB.size)⟩
     ·obtain rfl:m=p.bQ.length:=by omega
      go_wp2_with fail;go_roundw
      case rel=>
       refine⟨k+1,by omega,by go_num,λj hj=>?_,hbw⟩
       rcases aS.1 hj with h|rfl
       ·exact hall'.O j h
       ·exact yA.2 ⟨jib.O,pO.O⟩
      case measure=>simp[RowKit.intOf];omega
   ·have hne:(BU s.on k !=bI s.gY k - bI s.O k+bI s.bg k)=true:=by simpa using hsum
    have bK:=ah (JH hlt (Oi hsum));clear hsum;go_wp2_with fail;refine dG (by kernel_rfl) (by kernel_rfl) ?_
    repeat(go_big_quiet_step ((go_at_call 91;refine Dn (jhm _ _ p _ k (hN2.O _ _) zy.O.shelf hlt))))
    refine wpQuiet_nil ?_
    intro W2 hw';have hb2:=dD hw';clear hw';clear q1 q4 q5 q6 hw1 hw2 hne;go_wp2_with fail;go_ret
    exact⟨fK (by rw[bK.O]),hB.trans (hb2.mono hB.size)⟩
  ·obtain rfl:k=p.aP.length:=by omega
   go_wp2_with fail;go_loopw[7,8,9,10,11,12,13] (λi _ _ _ _ _ _ wr=>∃k:Nat,k<=s.ak.length/\i=.int .i64 k/\(∀j,j<k->wI s j=true)/\Below W0.heap.size W0 wr) (λi _ _ _ _ _ _ _=>s.ak.length - (RowKit.intOf i).toNat)
   case atStart=>exact⟨0,aK _,rfl,λj hj=>by omega,hbw⟩
   case round=>
    clear y0 y1 x0 x1 x2 x3 x4 x5 x6 eP eU;clear hbw hB;obtain⟨k,hk,rfl,jb8,hbw⟩:=hrel;have QF:=ah jb8;clear jb8;have hB:=hb0.trans (hbw.mono hb0.size);obtain⟨⟨y0,y1⟩,x0,x1,x2,x3,x4,x5,x6,eP,eU⟩:=hK.O wr (hbw);by_cases hlt:k<s.ak.length
    ·obtain⟨A',c',Jh,Gs,d0,d1,hsl⟩:=(hO.O wr hB).aC hlt;obtain⟨l1,l3⟩:=zy.O.tN hlt;change 1<=(aU s.ak k).aH.length at l1
     change(aU s.ak k).aH.length<=3 at l3
     go_wp2_with fail;go_loopw[8,9] (λb i wr=>∃m:Nat,m<=(aU s.ak k).aH.length/\i=.int .i64 m/\b=.bool (JY (aU s.ak k) m)/\Below W0.heap.size W0 wr) (λ_ i _=>(aU s.ak k).aH.length - (RowKit.intOf i).toNat)
     case atStart=>exact⟨0,aK _,rfl,rfl,hbw⟩
     case round=>
      clear y0 y1 x0 x1 x2 x3 x4 x5 x6 eP eU;clear hbw hB Jh Gs d0 d1 hsl;obtain⟨m,hm,rfl,rfl,hbw⟩:=hrel;have hB:=hb0.trans (hbw.mono hb0.size);obtain⟨⟨y0,y1⟩,x0,x1,x2,x3,x4,x5,x6,eP,eU⟩:=hK.O wr (hbw);obtain⟨A',c',Jh,Gs,d0,d1,hsl⟩:=(hO.O wr hB).aC hlt;by_cases hml:m<(aU s.ak k).aH.length
      ·obtain⟨hok2,PD,e0,e1,e2,e3⟩:=hsl.at_.aG hml;have hsu:=WJ hml;cases hg:JY (aU s.ak k) m
       ·rw[hg,uY]at hsu
        have jic:=ah hsu;clear hsu hg;go_wp2_with fail;go_quiet (fail)
        go_wp2_with fail;go_roundw
        case rel=>exact⟨m+1,by omega,by go_num,by rw[jic.O],below_drewN hbw _⟩
        case measure=>simp[RowKit.intOf];omega
       ·rw[hg,lQ]at hsu
        by_cases hgw:(gK (aU s.ak k).aH m).oh=(gK (aU s.ak k).aH m).iw
        ·have hq:((gK (aU s.ak k).aH m).oh==(gK (aU s.ak k).aH m).iw)=true:=by simpa using hgw
         rw[iG hgw]at hsu
         have jic:=ah hsu;clear hsu hg hgw;go_wp2_with fail;go_quiet (fail)
         go_wp2_with fail;go_roundw
         case rel=>exact⟨m+1,by omega,by go_num,by rw[jic.O],below_drewN hbw _⟩
         case measure=>simp[RowKit.intOf];omega
        ·have hq:((gK (aU s.ak k).aH m).oh==(gK (aU s.ak k).aH m).iw)=false:=by simpa using hgw
         rw[fA hgw]at hsu
         have jic:=ah hsu;clear hsu hg hgw;go_wp2_with fail;go_quiet (fail)
         go_wp2_with fail;go_roundw
         case rel=>exact⟨m+1,by omega,by go_num,by rw[jic.O],below_drewN hbw _⟩
         case measure=>simp[RowKit.intOf];omega
      ·obtain rfl:m=(aU s.ak k).aH.length:=by omega
       rw[YZ];cases hag:oZ (aU s.ak k)
       ·have hng:=ah (show ¬((s.aC k).dW=1/\oZ (s.aC k)=true)by unfold aJ.aC;rw[hag];simp)
        clear hag;go_wp2_with fail;go_loopw[10,11,12,13] (λi _ _ _ wr=>∃m:Nat,m<=(aU s.ak k).aH.length/\i=.int .i64 m/\(∀j,j<m->mM s k j=true)/\Below W0.heap.size W0 wr) (λi _ _ _ _=>(aU s.ak k).aH.length - (RowKit.intOf i).toNat)
        case atStart=>exact⟨0,aK _,rfl,λj hj=>by omega,hbw⟩
        case round=>
         clear y0 y1 x0 x1 x2 x3 x4 x5 x6 eP eU;clear hbw hB Jh Gs d0 d1 hsl;obtain⟨m,hm,rfl,zA,hbw⟩:=hrel;have pO:=ah zA;clear zA;have hB:=hb0.trans (hbw.mono hb0.size);obtain⟨⟨y0,y1⟩,x0,x1,x2,x3,x4,x5,x6,eP,eU⟩:=hK.O wr (hbw);obtain⟨A',c',Jh,Gs,d0,d1,hsl⟩:=(hO.O wr hB).aC hlt;by_cases hml:m<(aU s.ak k).aH.length
         ·obtain⟨hok2,PD,e0,e1,e2,e3⟩:=hsl.at_.aG hml;have hl:gK (aU s.ak k).aH m=s.aG k m:=rfl;rw[hl]at e0 e1 e2 e3
          clear hl;obtain⟨_,⟨b1,b2⟩,⟨b3,b4⟩,b5,b6⟩:=zy.O.aG hlt hml;obtain⟨b7,b8⟩:=vK zy.O.aA k m;go_wp2_with fail;have hBd:Below w.heap.size w wr.drew:=hB.drew;go_region_held3 (λw'=>w'.cell? ⟨w.heap.size+1,1,none⟩=some (.slice A1 s.ak.length c1)/\w'.cell? ⟨w.heap.size+1,2,none⟩=some (.slice A2 s.aA.length c2)/\w'.cell? ⟨jd A1,ou A1+k*2+1,none⟩=some (.slice A' (aU s.ak k).aH.length c')/\
           w'.cell? ⟨jd A',ou A'+m*4,none⟩=some (.int .i64 (s.aG k m).dh)/\w'.cell? ⟨jd A',ou A'+m*4+1,none⟩=some (.int .i64 (s.aG k m).iw)/\w'.cell? ⟨jd A',ou A'+m*4+2,none⟩=some (.int .i64 (s.aG k m).oh)/\w'.cell? ⟨jd A',ou A'+m*4+3,none⟩=some (.int .i64 (s.aG k m).dP)) (first|go_keep)
           (first
           |(go_at_call 92;refine(UN _ _ s.aA k m (hH.O _ hBd) zy.O.aA).mono ?_;rintro e w' ⟨rfl,rfl⟩)
           |(go_at_call 92;refine(UN _ _ s.aA k m (hH.O _ (hBd.alloc hBd.size _)) zy.O.aA).mono ?_;rintro e w' ⟨rfl,rfl⟩))
          all_goals
           have sF:Below W0.heap.size W0 (wr.alloc (.cells #[.int .i64 (s.aG k m).dh,.int .i64 (s.aG k m).iw,.int .i64 (s.aG k m).oh,.int .i64 (s.aG k m).dP] 44)).drew:=(hbw.alloc hbw.size _).drew;have hbk1:jd A1<(wr.alloc (.cells #[.int .i64 (s.aG k m).dh,.int .i64 (s.aG k m).iw,.int .i64 (s.aG k m).oh,.int .i64 (s.aG k m).dP] 44)).drew.heap.size:=by simp;omega
           have hd0:(wr.alloc (.cells #[.int .i64 (s.aG k m).dh,.int .i64 (s.aG k m).iw,.int .i64 (s.aG k m).oh,.int .i64 (s.aG k m).dP] 44)).drew.cell? ⟨jd A1,ou A1+k*2,none⟩=some (.int .i64 (aU s.ak k).dW):=(((aj _ _).alloc (au _) _).drew.cell (p:=⟨jd A1,ou A1+k*2,none⟩) Gs).trans d0;have hzl:(wr.alloc (.cells #[.int .i64 (s.aG k m).dh,.int .i64 (s.aG k m).iw,.int .i64 (s.aG k m).oh,.int .i64 (s.aG k m).dP] 44)).drew.cell? ⟨wr.heap.size,1,none⟩=some (.int .i64 (s.aG k m).iw)/\(wr.alloc (.cells #[.int .i64 (s.aG k m).dh,.int .i64 (s.aG k m).iw,.int .i64 (s.aG k m).oh,.int .i64 (s.aG k m).dP] 44)).drew.cell? ⟨wr.heap.size,2,none⟩=some (.int .i64 (s.aG k m).oh)/\(wr.alloc (.cells #[.int .i64 (s.aG k m).dh,.int .i64 (s.aG k m).iw,.int .i64 (s.aG k m).oh,.int .i64 (s.aG k m).dP] 44)).drew.cell? ⟨wr.heap.size,3,none⟩=some (.int .i64 (s.aG k m).dP):=by simp
           clear d0 d1 e0 e1 e2 e3;clear y0 y1 x0 x1 x2 x3 x4 x5 x6 eP eU;obtain⟨⟨y0,y1⟩,x0,x1,x2,x3,x4,x5,x6,_⟩:=hK.O _ sF;have eP:=aI lg sF.size;have eU:=aI uZ sF.size;generalize (wr.alloc (.cells #[.int .i64 (s.aG k m).dh,.int .i64 (s.aG k m).iw,.int .i64 (s.aG k m).oh,.int .i64 (s.aG k m).dP] 44)).drew=Wq at sF hbk1 hd0 hzl y0 y1 x0 x1 x2 x3 x4 x5 x6 eP eU ⊢
           obtain⟨z1,z2,z3⟩:=hzl;have hparts:=VR s k m b7;unfold aJ.aC at hparts
           rcases hparts with⟨g1,g2,g3,g4,hf⟩|⟨g1,g2,g3,g4,hf⟩|⟨g1,g2,g3,hf⟩|⟨g1,g2,g3,g4,g5,hf⟩|⟨g1,g2,g3,g4,g5,hf⟩|⟨g1,g2,g3,g4,hf⟩
           ·have bK:=ah (qF (p:=p) hlt (nS hml hf));clear hf;go_wp2_with fail;go_ret
            exact⟨fK (by rw[bK.O]),hb0.trans (sF.mono hb0.size)⟩
           ·have hf':=ah hf;clear hf;go_wp2_with fail;go_roundw
            case rel=>
             refine⟨m+1,by omega,by go_num,λj hj=>?_,sF⟩
             rcases aS.1 hj with h|rfl
             ·exact pO.O j h
             ·exact hf'.O
            case measure=>simp[RowKit.intOf];omega
           ·have bK:=ah (qF (p:=p) hlt (nS hml hf));clear hf;go_wp2_with fail;go_ret
            exact⟨fK (by rw[bK.O]),hb0.trans (sF.mono hb0.size)⟩
           ·have bK:=ah (qF (p:=p) hlt (nS hml hf));clear hf;go_wp2_with fail;go_ret
            exact⟨fK (by rw[bK.O]),hb0.trans (sF.mono hb0.size)⟩
           ·have hf':=ah hf;clear hf;go_wp2_with fail;go_roundw
            case rel=>
             refine⟨m+1,by omega,by go_num,λj hj=>?_,sF⟩
             rcases aS.1 hj with h|rfl
             ·exact pO.O j h
             ·exact hf'.O
            case measure=>simp[RowKit.intOf];omega
           ·have hf':=ah hf;clear hf;go_wp2_with fail;go_roundw
            case rel=>
             refine⟨m+1,by omega,by go_num,λj hj=>?_,sF⟩
             rcases aS.1 hj with h|rfl
             ·exact pO.O j h
             ·exact hf'.O
            case measure=>simp[RowKit.intOf];omega
         ·obtain rfl:m=(aU s.ak k).aH.length:=by omega
          go_wp2_with fail;go_roundw
          case rel=>
           refine⟨k+1,by omega,by go_num,λj hj=>?_,hbw⟩
           rcases aS.1 hj with h|rfl
           ·exact QF.O j h
           ·exact sJ.2 ⟨hng.O,pO.O⟩
          case measure=>simp[RowKit.intOf];omega
       ·by_cases hk1:(aU s.ak k).dW=1
        ·have hq:((aU s.ak k).dW==1)=true:=by simpa using hk1
         have bK:=ah (qF (p:=p) hlt (MX (o:=k) hk1 hag));clear hk1 hag;go_wp2_with fail;go_ret
         exact⟨fK (by rw[bK.O]),hB⟩
        ·have hq:((aU s.ak k).dW==1)=false:=by simpa using hk1
         have hng:=ah (show ¬((s.aC k).dW=1/\oZ (s.aC k)=true)from λh=>hk1 h.1)
         clear hag hk1;go_wp2_with fail;clear hq;go_loopw[10,11,12,13] (λi _ _ _ wr=>∃m:Nat,m<=(aU s.ak k).aH.length/\i=.int .i64 m/\(∀j,j<m->mM s k j=true)/\Below W0.heap.size W0 wr) (λi _ _ _ _=>(aU s.ak k).aH.length - (RowKit.intOf i).toNat)
         case atStart=>exact⟨0,aK _,rfl,λj hj=>by omega,hbw⟩
         case round=>
          clear y0 y1 x0 x1 x2 x3 x4 x5 x6 eP eU;clear hbw hB Jh Gs d0 d1 hsl;obtain⟨m,hm,rfl,zA,hbw⟩:=hrel;have pO:=ah zA;clear zA;have hB:=hb0.trans (hbw.mono hb0.size);obtain⟨⟨y0,y1⟩,x0,x1,x2,x3,x4,x5,x6,eP,eU⟩:=hK.O wr (hbw);obtain⟨A',c',Jh,Gs,d0,d1,hsl⟩:=(hO.O wr hB).aC hlt;by_cases hml:m<(aU s.ak k).aH.length
          ·obtain⟨hok2,PD,e0,e1,e2,e3⟩:=hsl.at_.aG hml;have hl:gK (aU s.ak k).aH m=s.aG k m:=rfl;rw[hl]at e0 e1 e2 e3
           clear hl;obtain⟨_,⟨b1,b2⟩,⟨b3,b4⟩,b5,b6⟩:=zy.O.aG hlt hml;obtain⟨b7,b8⟩:=vK zy.O.aA k m;go_wp2_with fail;have hBd:Below w.heap.size w wr.drew:=hB.drew;go_region_held3 (λw'=>w'.cell? ⟨w.heap.size+1,1,none⟩=some (.slice A1 s.ak.length c1)/\w'.cell? ⟨w.heap.size+1,2,none⟩=some (.slice A2 s.aA.length c2)/\w'.cell? ⟨jd A1,ou A1+k*2+1,none⟩=some (.slice A' (aU s.ak k).aH.length c')/\
            w'.cell? ⟨jd A',ou A'+m*4,none⟩=some (.int .i64 (s.aG k m).dh)/\w'.cell? ⟨jd A',ou A'+m*4+1,none⟩=some (.int .i64 (s.aG k m).iw)/\w'.cell? ⟨jd A',ou A'+m*4+2,none⟩=some (.int .i64 (s.aG k m).oh)/\w'.cell? ⟨jd A',ou A'+m*4+3,none⟩=some (.int .i64 (s.aG k m).dP)) (first|go_keep)
            (first
            |(go_at_call 92;refine(UN _ _ s.aA k m (hH.O _ hBd) zy.O.aA).mono ?_;rintro e w' ⟨rfl,rfl⟩)
            |(go_at_call 92;refine(UN _ _ s.aA k m (hH.O _ (hBd.alloc hBd.size _)) zy.O.aA).mono ?_;rintro e w' ⟨rfl,rfl⟩))
           all_goals
            have sF:Below W0.heap.size W0 (wr.alloc (.cells #[.int .i64 (s.aG k m).dh,.int .i64 (s.aG k m).iw,.int .i64 (s.aG k m).oh,.int .i64 (s.aG k m).dP] 44)).drew:=(hbw.alloc hbw.size _).drew;have hbk1:jd A1<(wr.alloc (.cells #[.int .i64 (s.aG k m).dh,.int .i64 (s.aG k m).iw,.int .i64 (s.aG k m).oh,.int .i64 (s.aG k m).dP] 44)).drew.heap.size:=by simp;omega
            have hd0:(wr.alloc (.cells #[.int .i64 (s.aG k m).dh,.int .i64 (s.aG k m).iw,.int .i64 (s.aG k m).oh,.int .i64 (s.aG k m).dP] 44)).drew.cell? ⟨jd A1,ou A1+k*2,none⟩=some (.int .i64 (aU s.ak k).dW):=(((aj _ _).alloc (au _) _).drew.cell (p:=⟨jd A1,ou A1+k*2,none⟩) Gs).trans d0;have hzl:(wr.alloc (.cells #[.int .i64 (s.aG k m).dh,.int .i64 (s.aG k m).iw,.int .i64 (s.aG k m).oh,.int .i64 (s.aG k m).dP] 44)).drew.cell? ⟨wr.heap.size,1,none⟩=some (.int .i64 (s.aG k m).iw)/\(wr.alloc (.cells #[.int .i64 (s.aG k m).dh,.int .i64 (s.aG k m).iw,.int .i64 (s.aG k m).oh,.int .i64 (s.aG k m).dP] 44)).drew.cell? ⟨wr.heap.size,2,none⟩=some (.int .i64 (s.aG k m).oh)/\(wr.alloc (.cells #[.int .i64 (s.aG k m).dh,.int .i64 (s.aG k m).iw,.int .i64 (s.aG k m).oh,.int .i64 (s.aG k m).dP] 44)).drew.cell? ⟨wr.heap.size,3,none⟩=some (.int .i64 (s.aG k m).dP):=by simp
            clear d0 d1 e0 e1 e2 e3;clear y0 y1 x0 x1 x2 x3 x4 x5 x6 eP eU;obtain⟨⟨y0,y1⟩,x0,x1,x2,x3,x4,x5,x6,_⟩:=hK.O _ sF;have eP:=aI lg sF.size;have eU:=aI uZ sF.size;generalize (wr.alloc (.cells #[.int .i64 (s.aG k m).dh,.int .i64 (s.aG k m).iw,.int .i64 (s.aG k m).oh,.int .i64 (s.aG k m).dP] 44)).drew=Wq at sF hbk1 hd0 hzl y0 y1 x0 x1 x2 x3 x4 x5 x6 eP eU ⊢
            obtain⟨z1,z2,z3⟩:=hzl;have hparts:=VR s k m b7;unfold aJ.aC at hparts
            rcases hparts with⟨g1,g2,g3,g4,hf⟩|⟨g1,g2,g3,g4,hf⟩|⟨g1,g2,g3,hf⟩|⟨g1,g2,g3,g4,g5,hf⟩|⟨g1,g2,g3,g4,g5,hf⟩|⟨g1,g2,g3,g4,hf⟩
            ·have bK:=ah (qF (p:=p) hlt (nS hml hf));clear hf;go_wp2_with fail;go_ret
             exact⟨fK (by rw[bK.O]),hb0.trans (sF.mono hb0.size)⟩
            ·have hf':=ah hf;clear hf;go_wp2_with fail;go_roundw
             case rel=>
              refine⟨m+1,by omega,by go_num,λj hj=>?_,sF⟩
              rcases aS.1 hj with h|rfl
              ·exact pO.O j h
              ·exact hf'.O
             case measure=>simp[RowKit.intOf];omega
            ·have bK:=ah (qF (p:=p) hlt (nS hml hf));clear hf;go_wp2_with fail;go_ret
             exact⟨fK (by rw[bK.O]),hb0.trans (sF.mono hb0.size)⟩
            ·have bK:=ah (qF (p:=p) hlt (nS hml hf));clear hf;go_wp2_with fail;go_ret
             exact⟨fK (by rw[bK.O]),hb0.trans (sF.mono hb0.size)⟩
            ·have hf':=ah hf;clear hf;go_wp2_with fail;go_roundw
             case rel=>
              refine⟨m+1,by omega,by go_num,λj hj=>?_,sF⟩
              rcases aS.1 hj with h|rfl
              ·exact pO.O j h
              ·exact hf'.O
             case measure=>simp[RowKit.intOf];omega
            ·have hf':=ah hf;clear hf;go_wp2_with fail;go_roundw
             case rel=>
              refine⟨m+1,by omega,by go_num,λj hj=>?_,sF⟩
              rcases aS.1 hj with h|rfl
              ·exact pO.O j h
              ·exact hf'.O
             case measure=>simp[RowKit.intOf];omega
          ·obtain rfl:m=(aU s.ak k).aH.length:=by omega
           go_wp2_with fail;go_roundw
           case rel=>
            refine⟨k+1,by omega,by go_num,λj hj=>?_,hbw⟩
            rcases aS.1 hj with h|rfl
            ·exact QF.O j h
            ·exact sJ.2 ⟨hng.O,pO.O⟩
           case measure=>simp[RowKit.intOf];omega
    ·obtain rfl:k=s.ak.length:=by omega
     have bK:=ah (Qk.2 ⟨hall'.O,QF.O⟩);go_wp2_with fail;go_ret
     exact⟨fK (by rw[bK.O]),hB⟩
end Wh
namespace Wh
open Go Go.RowKit Go.Shelf Go.Proofs Tryz
attribute [local go_sem] aT
theorem O7{s:aJ}(h:4<s.ak.length\/8<s.aF.length\/(s.ak.any λo=>!cZ o.aH.length 1 3)=true):Jd s=false:=by
 cases hm:Jd s
 ·rfl
 ·obtain⟨h1,h2,h3⟩:=CX.1 hm;rcases h with h|h|h
  ·omega
  ·omega
  ·rw[FP,h3]at h
   cases h
theorem jhM{s:aJ}(h1:s.ak.length<=4)(h2:s.aF.length<=8)(h3:(s.ak.any λo=>!cZ o.aH.length 1 3)=false):Jd s=true:=by
 refine CX.2 ⟨h1,h2,?_⟩
 rw[FP]at h3
 simpa using h3
theorem VP{s:aJ}(h:Jd s=true):∀o,o<s.ak.length->(aU s.ak o).aH.length<=1000:=λo ho=>by
 have:=dV.1 (uP Gw (CX.1 h).2.2 ho);unfold aU;omega
theorem Nz(w:World)(v vs:Value)(p:dA)(s:aJ)(hp:mW w w.heap.size v p)(hv:lK w w.heap.size vs s):
  Calls prog 23 #[v,vs] w λe w'=>e=.returned (.int .i64 (aQ p s))/\Below w.heap.size w w':=by
 obtain⟨Ab,cb,As,cs,rfl,hP',hBn,hSz,hlb,hls⟩:=sN hp;obtain⟨A0,c0,A1,c1,A2,c2,A3,c3,A4,c4,A5,c5,A6,c6,rfl,hV,hN,hO,hH,hM,hI,hU,hX,hl0,hl1,hl2,hl3,hl4,hl5,JA⟩:=oW hv;go_enter func23,ntmps23
 go_wp2_with fail;obtain⟨W0,hW0,hb0,lg,uZ,hsE,hK⟩:=Eh w p s Ab cb As cs A0 c0 A1 c1 A2 c2 A3 c3 A4 c4 A5 c5 A6 c6;rw[hW0];clear hW0;obtain⟨⟨y0,y1⟩,x0,x1,x2,x3,x4,x5,x6,eP,eU⟩:=hK.O W0 (aj W0.heap.size W0);go_wp2_with fail;clear y0 y1 x0 x1 x2 x3 x4 x5 x6 eP eU;refine(Vk _ _ _ p s.on (hP'.O _ hb0) (hN.O _ hb0)).mono ?_
 rintro e W1 ⟨rfl,hb1⟩;have hB1:=hb0.trans (hb1.mono hb0.size);obtain⟨⟨y0,y1⟩,x0,x1,x2,x3,x4,x5,x6,eP,eU⟩:=hK.O W1 (hb1);by_cases hsh:iO p s.on=0
 ·have hsh':=ah hsh;rw[hsh];clear hsh;by_cases h4:s.ak.length<=4
  ·by_cases h8:s.aF.length<=8
   ·go_wp2_with fail;clear y0 y1 x0 x1 x2 x3 x4 x5 x6 eP eU;refine(RQ _ _ s.ak 77 #[] (λo=>!cZ o.aH.length 1 3) WZ (hO.O W1 hB1) (λj _ W hW u hu=>jfK _ u W hu)).mono ?_
    rintro e W2 ⟨rfl,hb2⟩;have BG:=hb1.trans (hb2.mono hb1.size);have hB2:=hb0.trans (BG.mono hb0.size);obtain⟨⟨y0,y1⟩,x0,x1,x2,x3,x4,x5,x6,eP,eU⟩:=hK.O W2 (BG);cases hany:(s.ak.any λo=>!cZ o.aH.length 1 3)
    ·have hmy:=ah (jhM h4 h8 hany);clear hany;go_wp2_with fail;clear y0 y1 x0 x1 x2 x3 x4 x5 x6 eP eU;refine(jkh _ _ _ p s (hP'.O W2 hB2) (hV.O W2 hB2) (jZ.1 hsh'.O).1 h4 (VP hmy.O)).mono ?_
     rintro e W3 ⟨rfl,hb3⟩;have Oe:=BG.trans (hb3.mono BG.size);have hB3:=hb0.trans (Oe.mono hb0.size);obtain⟨⟨y0,y1⟩,x0,x1,x2,x3,x4,x5,x6,eP,eU⟩:=hK.O W3 (Oe);cases hf:oQ p s
     ·have bK:=ah (Nc hsh'.O hmy.O hf);clear hf;go_wp2_with fail;go_ret
      exact⟨iF (by rw[bK.O]),hB3⟩
     ·have hsn:=ah (o9.mk hsh'.O hmy.O hf);clear hf;go_wp2_with fail;clear y0 y1 x0 x1 x2 x3 x4 x5 x6 eP eU;refine(jke _ _ _ p s (hP'.O W3 hB3) (hV.O W3 hB3) hsn.O).mono ?_
      rintro e W4 ⟨rfl,hb4⟩;have hB4:=hB3.trans (hb4.mono hB3.size);cases hq:Eu p s
      ·have bK:=ah (OC hsn.O hq);clear hq;go_wp2_with fail;go_ret
       exact⟨iF (by rw[bK.O]),hB4⟩
      ·have bK:=ah (KF hsn.O hq);clear hq;go_wp2_with fail;go_ret
       exact⟨iF (by rw[bK.O]),hB4⟩
    ·have bK:=ah (yZ hsh'.O (O7 (.inr (.inr hany))));clear hany;go_wp2_with fail;go_ret
     exact⟨iF (by rw[bK.O]),hB2⟩
   ·have bK:=ah (yZ hsh'.O (O7 (.inr (.inl (by omega)))))
    go_wp2_with fail;go_ret
    exact⟨iF (by rw[bK.O]),hB1⟩
  ·have bK:=ah (yZ hsh'.O (O7 (.inl (by omega))))
   go_wp2_with fail;go_ret
   exact⟨iF (by rw[bK.O]),hB1⟩
 ·have hne:(iO p s.on !=0)=true:=by simpa using hsh
  have bK:=ah (Ll hsh);clear hsh;go_wp2_with fail;go_ret
  exact⟨iF (by rw[bK.O]),hB1⟩
theorem Ag(w:World)(v vs:Value)(p:dA)(s:aJ)(hp:mW w w.heap.size v p)(hv:lK w w.heap.size vs s):
  Calls prog 14 #[v,vs] w λe w'=>e=.returned (.int .i64 (aQ p s))/\Below w.heap.size w w':=by
 obtain⟨Ab,cb,As,cs,rfl,hP',hBn,hSz,hlb,hls⟩:=sN hp;obtain⟨A0,c0,A1,c1,A2,c2,A3,c3,A4,c4,A5,c5,A6,c6,rfl,hV,hN,hO,hH,hM,hI,hU,hX,hl0,hl1,hl2,hl3,hl4,hl5,JA⟩:=oW hv;go_enter func14,ntmps14
 go_wp2_with fail;obtain⟨W0,hW0,hb0,lg,uZ,hsE,hK⟩:=Eh w p s Ab cb As cs A0 c0 A1 c1 A2 c2 A3 c3 A4 c4 A5 c5 A6 c6;rw[hW0];clear hW0;obtain⟨⟨y0,y1⟩,x0,x1,x2,x3,x4,x5,x6,eP,eU⟩:=hK.O W0 (aj W0.heap.size W0);go_wp2_with fail;clear y0 y1 x0 x1 x2 x3 x4 x5 x6 eP eU;refine(jbc _ _ _ p s.on (hP'.O _ hb0) (hN.O _ hb0)).mono ?_
 rintro e W1 ⟨rfl,hb1⟩;have hB1:=hb0.trans (hb1.mono hb0.size);obtain⟨⟨y0,y1⟩,x0,x1,x2,x3,x4,x5,x6,eP,eU⟩:=hK.O W1 (hb1);by_cases hsh:iO p s.on=0
 ·have hsh':=ah hsh;rw[hsh];clear hsh;by_cases h4:s.ak.length<=4
  ·by_cases h8:s.aF.length<=8
   ·go_wp2_with fail;go_loopw[6] (λi wr=>∃k:Nat,k<=s.ak.length/\i=.int .i64 k/\(∀j,j<k->cZ (aU s.ak j).aH.length 1 3=true)/\Below W0.heap.size W0 wr) (λi _=>s.ak.length - (RowKit.intOf i).toNat)
    case atStart=>exact⟨0,aK _,rfl,λj hj=>by omega,hb1⟩
    case round=>
     clear y0 y1 x0 x1 x2 x3 x4 x5 x6 eP eU;clear hb1 hB1;obtain⟨k,hk,rfl,kE,hbw⟩:=hrel;have hall':=ah kE;clear kE;have hB:=hb0.trans (hbw.mono hb0.size);obtain⟨⟨y0,y1⟩,x0,x1,x2,x3,x4,x5,x6,eP,eU⟩:=hK.O wr (hbw);by_cases hlt:k<s.ak.length
     ·obtain⟨A',c',Jh,Gs,d0,d1,hsl⟩:=(hO.O wr hB).aC hlt;cases hwi:cZ (aU s.ak k).aH.length 1 3
      ·have bK:=ah (yZ hsh'.O (O7 (.inr (.inr (by
        rw[lu];exact⟨aU s.ak k,by rw[uy hlt];exact bU hlt,by rw[hwi];rfl⟩)))))
       go_wp2_with (go_at_call 38;refine(oH _ _ _ _).mono ?_;rintro e w' ⟨rfl,rfl⟩)
       go_ret
       exact⟨iF (by rw[bK.O]),hB⟩
      ·have js4:=ah hwi;go_wp2_with (go_at_call 38;refine(oH _ _ _ _).mono ?_;rintro e w' ⟨rfl,rfl⟩)
       go_roundw
       case rel=>
        refine⟨k+1,by omega,by go_num,λj hj=>?_,hbw⟩
        rcases aS.1 hj with h|rfl
        ·exact hall'.O j h
        ·exact js4.O
       case measure=>simp[RowKit.intOf];omega
     ·obtain rfl:k=s.ak.length:=by omega
      have hmy:=ah (CX.2 ⟨h4,h8,D7 Gw hall'.O⟩);clear hall';go_wp2_with fail;clear y0 y1 x0 x1 x2 x3 x4 x5 x6 eP eU;refine(jkm _ _ _ p s (hP'.O wr hB) (hV.O wr hB) (jZ.1 hsh'.O).1 h4 h8 (VP hmy.O)).mono ?_
      rintro e W3 ⟨rfl,hb3⟩;have Oe:=hbw.trans (hb3.mono hbw.size);have hB3:=hb0.trans (Oe.mono hb0.size);obtain⟨⟨y0,y1⟩,x0,x1,x2,x3,x4,x5,x6,eP,eU⟩:=hK.O W3 (Oe);cases hf:oQ p s
      ·have bK:=ah (Nc hsh'.O hmy.O hf);clear hf;go_wp2_with fail;go_ret
       exact⟨iF (by rw[bK.O]),hB3⟩
      ·have hsn:=ah (o9.mk hsh'.O hmy.O hf);clear hf;go_wp2_with fail;clear y0 y1 x0 x1 x2 x3 x4 x5 x6 eP eU;refine(jkk _ _ _ p s (hP'.O W3 hB3) (hV.O W3 hB3) hsn.O).mono ?_
       rintro e W4 ⟨rfl,hb4⟩;have hB4:=hB3.trans (hb4.mono hB3.size);cases hq:Eu p s
       ·have bK:=ah (OC hsn.O hq);clear hq;go_wp2_with fail;go_ret
        exact⟨iF (by rw[bK.O]),hB4⟩
       ·have bK:=ah (KF hsn.O hq);clear hq;go_wp2_with fail;go_ret
        exact⟨iF (by rw[bK.O]),hB4⟩
   ·have bK:=ah (yZ hsh'.O (O7 (.inr (.inl (by omega)))))
    go_wp2_with fail;go_ret
    exact⟨iF (by rw[bK.O]),hB1⟩
  ·have bK:=ah (yZ hsh'.O (O7 (.inl (by omega))))
   go_wp2_with fail;go_ret
   exact⟨iF (by rw[bK.O]),hB1⟩
 ·have hne:(iO p s.on !=0)=true:=by simpa using hsh
  have bK:=ah (Ll hsh);clear hsh;go_wp2_with fail;go_ret
  exact⟨iF (by rw[bK.O]),hB1⟩
end Wh
