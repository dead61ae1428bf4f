/- Texts of the claim, joined. -/
import Derived.StillTailTactics
import Derived.Test.YtniaecolikhmeaaGreatDoorQ18
set_option maxHeartbeats 20000000
set_option maxRecDepth 100000
set_option linter.all false
namespace Wh
open Go Go.RowKit Go.Shelf Go.Proofs Tryz
section
attribute [local go_sem] aV
theorem jpD(w:World)(v vs:Value)(p:dG)(s:aI)(hp:kK w w v p)(hv:kG w w vs s):
  Calls prog 69 #[v,vs] w λe w'=>e=.returned (.tuple #[.int .i64 (Zy p s).1,.int .i64 (Zy p s).2])/\Below w w w':=by
 obtain⟨Ab,cb,As,cs,rfl,hP',hBn,hSz,hlb,hls⟩:=o9 hp;obtain⟨A0,c0,A1,c1,A2,c2,A3,c3,A4,c4,A5,c5,A6,c6,rfl,hV,hN,hO,hH,hM,hI,hU,hX,hl0,hl1,hl2,hl3,hl4,hl5,Jb⟩:=lY hv;go_enter func69,ntmps69
 go_wp2_with fail;obtain⟨W0,hW0,hb0,kX,um,hsE,hK⟩:=uT w p s Ab cb As cs A0 c0 A1 c1 A2 c2 A3 c3 A4 c4 A5 c5 A6 c6;rw[hW0];clear hW0;obtain⟨⟨y0,y1⟩,x0,x1,x2,x3,x4,x5,x6,fB,fC⟩:=hK.O W0 (aj W0 W0);go_wp2_with fail;clear y0 y1 x0 x1 x2 x3 x4 x5 x6 fB fC;refine(Nh _ _ _ p s (hP'.O _ hb0) (hV.O _ hb0)).mono ?_
 rintro e W1 ⟨rfl,h1⟩;have hB1:=fD hb0 h1;obtain⟨⟨y0,y1⟩,x0,x1,x2,x3,x4,x5,x6,fB,fC⟩:=hK.O W1 (h1);by_cases hc:aO p s=0
 ·have hE:=ah (jcn hc);have h4:=(gB.1 hc).1.nX;rw[hc];clear hc;go_wp2_with fail;clear y0 y1 x0 x1 x2 x3 x4 x5 x6 fB fC;go_loopw[19,7,9] (λi n _ wr=>∃k:Nat,k<=s.ak.length/\i=.int .i64 k/\n=.int .i64 (I4 s k)/\Below W0.heap.size W0 wr) (λi _ _ _=>s.ak.length - (RowKit.intOf i).toNat)
  case atStart=>exact⟨0,aN _,rfl,rfl,h1⟩
  case round=>
   clear h1 hB1;obtain⟨k,hk,rfl,rfl,h0⟩:=hrel;have hB:=fD hb0 h0;obtain⟨⟨y0,y1⟩,x0,x1,x2,x3,x4,x5,x6,fB,fC⟩:=hK.O wr (h0);by_cases hlt:k<s.ak.length
   ·have hki:(k:Int)<(s.ak.length:Int):=by omega
    obtain⟨A',c',I8,Gv,d0,d1,hsl⟩:=(hO.O wr hB).aC hlt;have h0o:=h0.alloc h0.size (.cells #[.int .i64 (bK s.ak k).eH,.slice A' (bK s.ak k).aH.length c'] 114);have hr:=Ns s k;have hs':=UJ s k;by_cases hkd:(bK s.ak k).eH=2
    ·have hq:((bK s.ak k).eH !=2)=false:=by simpa using hkd
     rw[aB hkd,je]at hs'
     have hs2:=ah hs';clear hkd hs';go_wp2_with fail;go_roundw
     case rel=>exact⟨k+1,by omega,by go_num,by rw[hs2.O],h0o⟩
     case measure=>simp[dY];omega
    ·have hq:((bK s.ak k).eH !=2)=true:=by simpa using hkd
     rw[au hkd]at hs'
     have hs2:=ah hs';have hw1:IntKind.i64.wrap (I4 s k+1)=I4 s k+1:=aP _ (by omega)
     clear hkd hs';go_wp2_with fail;go_roundw
     case rel=>exact⟨k+1,by omega,by go_num,by rw[hs2.O],h0o⟩
     case measure=>simp[dY];omega
   ·obtain rfl:k=s.ak.length:=by omega
    go_wp2_with fail;go_ret2
    exact⟨by rw[hE.O];rfl,hB⟩
 ·have hne:(aO p s !=0)=true:=by simpa using hc
  have hE:=ah (jgO hc);clear hc;go_wp2_with fail;go_ret2
  exact⟨by rw[hE.O];rfl,hB1⟩
end
section
attribute [local go_sem] aV
theorem jeg(w:World)(v vs:Value)(p:dG)(s:aI)(b g n:Int)(hp:kK w w v p)(hv:kG w w vs s):
  Calls prog 72 #[v,vs,b,g,n] w (nN (rD p s b g n) w):=by
 obtain⟨Ab,cb,As,cs,rfl,hP',hBn,hSz,hlb,hls⟩:=o9 hp;obtain⟨A0,c0,A1,c1,A2,c2,A3,c3,A4,c4,A5,c5,A6,c6,rfl,hV,hN,hO,hH,hM,hI,hU,hX,hl0,hl1,hl2,hl3,hl4,hl5,Jb⟩:=lY hv;go_enter func72,ntmps72
 go_wp2_with fail;obtain⟨W0,hW0,hb0,kX,um,hsE,hK,hR⟩:=yS w p s Ab cb As cs A0 c0 A1 c1 A2 c2 A3 c3 A4 c4 A5 c5 A6 c6;rw[hW0];clear hW0;obtain⟨⟨y0,y1⟩,x0,x1,x2,x3,x4,x5,x6,fB,fC⟩:=hK.O W0 (aj W0 W0);go_wp2_with fail;clear y0 y1 x0 x1 x2 x3 x4 x5 x6 fB fC;refine(BD _ _ _ p s (hP'.O _ hb0) (hV.O _ hb0)).mono ?_
 rintro e W1 ⟨rfl,h1⟩;have hB1:=fD hb0 h1;obtain⟨⟨y0,y1⟩,x0,x1,x2,x3,x4,x5,x6,fB,fC⟩:=hK.O W1 (h1);by_cases hc:aO p s=0
 ·have hc':=ah hc;have hsn:=ah (gB.1 hc).1;rw[hc];clear hc;go_wp2_with fail;clear y0 y1 x0 x1 x2 x3 x4 x5 x6 fB fC;have hcnt:=hsn.O.counts;refine(DX _ _ p b (hP'.O _ hB1) (by omega)).mono ?_
  rintro e W2 ⟨rfl,h2⟩;have h02:=fD h1 h2;have hB2:=fD hb0 h02;obtain⟨⟨y0,y1⟩,x0,x1,x2,x3,x4,x5,x6,fB,fC⟩:=hK.O W2 (h02);cases hth:lK p b
  ·have dw:=ah (CY (g:=g) (n:=n) hc'.O (by rw[hth];rfl))
   clear hth;have fH:=hR.O _ h02;go_wp2_with (refine dU (.tmp 10) (.tmp 36) dV dV rfl fH rfl rfl (λw9 dS jg=>?_))
   have eF:=Below.gV hB2 jg;go_wp2_with fail;exact jl results72 dS rfl rfl (jJ dw.O eF)
  ·have hbb:=ah (zA.1 hth);have jg5:=ah hth;clear hth;go_wp2_with fail;clear y0 y1 x0 x1 x2 x3 x4 x5 x6 fB fC;refine(Fe _ _ p g (hP'.O _ hB2) (by omega)).mono ?_
   rintro e W8 ⟨rfl,h8⟩;have BG:=fD h02 h8;have NJ:=fD hb0 BG;obtain⟨⟨y0,y1⟩,x0,x1,x2,x3,x4,x5,x6,fB,fC⟩:=hK.O W8 (BG);cases hth:iO p g
   ·have dw:=ah (CY (n:=n) hc'.O (by rw[jg5.O,hth];rfl))
    clear hth;have fH:=hR.O _ BG;go_wp2_with (refine dU (.tmp 10) (.tmp 36) dV dV rfl fH rfl rfl (λw9 dS jg=>?_))
    have eF:=Below.gV NJ jg;go_wp2_with fail;exact jl results72 dS rfl rfl (jJ dw.O eF)
   have jaZ:=ah (show(lK p b&&iO p g)=true by rw[jg5.O,hth];rfl)
   have hgg:=ah (wI.1 hth);clear hth;go_wp2_with fail;clear y0 y1 x0 x1 x2 x3 x4 x5 x6 fB fC;refine(oz n 1 200 _).mono ?_
   rintro e w' ⟨rfl,rfl⟩;obtain⟨⟨y0,y1⟩,x0,x1,x2,x3,x4,x5,x6,fB,fC⟩:=hK.O W8 (BG);cases hwn:dM n 1 200
   ·have dw:=ah (CY (b:=b) (g:=g) (n:=n) hc'.O (by rw[hwn,Dh]))
    clear hwn;have fH:=hR.O _ BG;go_wp2_with (refine dU (.tmp 10) (.tmp 36) dV dV rfl fH rfl rfl (λw9 dS jg=>?_))
    have eF:=Below.gV NJ jg;go_wp2_with fail;exact jl results72 dS rfl rfl (jJ dw.O eF)
   ·have jtW:=ah hwn;obtain⟨hn1,hn2⟩:=dZ.1 hwn;clear hwn;have kQ:=ah (show(lK p b&&iO p g&&dM n 1 200)=true by rw[jaZ.O,jtW.O];rfl)
    have hb1:0<=b:=hbb.O.1;have hb2:b<(s.on.length:Int):=by rw[hsn.O.sO];exact hbb.O.2
    have hg1:0<=g:=hgg.O.1;have hg2:g<(p.aW.length:Int):=hgg.O.2;have hbl:b.toNat<s.on.length:=by omega
    have hgs:g.toNat<p.aW.length:=by omega
    have hgl:g.toNat<(fO s.on b.toNat).length:=by rw[hsn.O.rowLen (by have:=hbb.O;omega)];omega
    have hgr:g<((fO s.on b.toNat).length:Int):=by omega
    have hgi:g<(s.jf.length:Int):=by rw[hsn.O.jf.1];omega
    obtain⟨z1,z2⟩:=Ac hsn.O.plan hgs;have hm1:=P8 (a:=n) (b:=aZ p.aW g.toNat) (by omega) ⟨z1,z2⟩
    have hw1:IntKind.i64.wrap (n*aZ p.aW g.toNat)=n*aZ p.aW g.toNat:=aP _ (by omega)
    obtain⟨os0,ls0,rs0⟩:=(hSz.O W8 NJ).at_.int hgs;have q0:=λo d os=>cZ (w:=W8) (b:=w.heap.size) fC o d os
    have q1:=λo d os=>cZ (w:=W8) (b:=w.heap.size+1) fB o d os
    have q2:=λo d os=>cZ (w:=W8) (b:=iH As) ls0 o d os
    have hP2:=ah (λd os=>hP'.O _ (NJ.trans ((kH W8 d os).mono NJ.size)))
    have hV2:=ah (λd os=>hV.O _ (NJ.trans ((kH W8 d os).mono NJ.size)))
    by_cases hfu:free p s b<n*aZ p.aW g.toNat
    ·have dw:=ah (Sr (n:=n) hc'.O kQ.O hfu);go_wp2_with fail;refine dO (by kernel_rfl) (by kernel_rfl) ?_
     repeat(go_big_quiet_step ((go_at_call 116;refine fV (jay _ _ _ p s b (hP2.O _ _) (hV2.O _ _) hsn.O hbb.O))))
     refine wpQuiet_nil ?_
     intro W3 hw';have hb3:=dN hw';clear hw';have h03:=fD BG hb3;have hB3:=fD hb0 h03;have fH:=hR.O _ h03;go_wp2_with (refine dU (.tmp 10) (.tmp 49) dV dV rfl fH rfl rfl (λw9 dS jg=>?_))
     have eF:=Below.gV hB3 jg;go_wp2_with fail;exact jl results72 dS rfl rfl (jJ dw.O eF)
    ·have je1:n*aZ p.aW g.toNat<=free p s b:=by omega
     go_wp2_with fail;refine dO (by kernel_rfl) (by kernel_rfl) ?_
     repeat(go_big_quiet_step ((go_at_call 116;refine fV (jay _ _ _ p s b (hP2.O _ _) (hV2.O _ _) hsn.O hbb.O))))
     refine wpQuiet_nil ?_
     intro W3 hw';have hb3:=dN hw';clear hw';have h03:=fD BG hb3;have hB3:=fD hb0 h03;clear q0 q1 q2 hP2 hV2 hw1 rs0 os0 ls0;clear y0 y1 x0 x1 x2 x3 x4 x5 x6 fB fC;obtain⟨⟨y0,y1⟩,x0,x1,x2,x3,x4,x5,x6,fB,fC⟩:=hK.O W3 (h03);obtain⟨Ar,cr,or0,UN,Zp,wK⟩:=(hN.O W3 hB3).row hbl;obtain⟨or1,lr1,RZ⟩:=wK.at_.int hgl;obtain⟨oi,li,ri⟩:=(hI.O W3 hB3).at_.int (i:=g.toNat) (by omega)
     have hcl:aZ (fO s.on b.toNat) g.toNat=cell s.on b.toNat g.toNat:=rfl;rw[hcl]at RZ
     clear hcl;have t1:=hsn.O.cell (b:=b.toNat) (g:=g.toNat) (by have:=hbb.O;omega) hgs
     have t2:=yh hsn.O b g;have t3:=hsn.O.jf.2 hgs;have hw1:IntKind.i64.wrap (cell s.on b.toNat g.toNat+iC s b g)=cell s.on b.toNat g.toNat+iC s b g:=aP _ (by omega)
     have hw2:IntKind.i64.wrap (cell s.on b.toNat g.toNat+iC s b g+n)=cell s.on b.toNat g.toNat+iC s b g+n:=aP _ (by omega)
     have hw3:IntKind.i64.wrap (aZ s.jf g.toNat+n)=aZ s.jf g.toNat+n:=aP _ (by omega)
     have q1:=λo d os=>cZ (w:=W3) (b:=w.heap.size+1) fB o d os
     have q2:=λo d os=>cZ (w:=W3) (b:=iH A0) UN o d os
     have q3:=λo d os=>cZ (w:=W3) (b:=iH Ar) lr1 o d os
     have hV2:=ah (λd os=>hV.O _ (hB3.trans ((kH W3 d os).mono hB3.size)))
     have q4:=λo d os=>cZ (w:=W3) (b:=iH A4) li o d os
     by_cases hm:200<cell s.on b.toNat g.toNat+iC s b g+n
     ·have dw:=ah (Js (n:=n) hc'.O kQ.O je1 (.inl hm));go_wp2_with fail;refine dO (by kernel_rfl) (by kernel_rfl) ?_
      repeat(go_big_quiet_step ((go_at_call 117;refine fV (Nl _ _ p s b g (hV2.O _ _) hsn.O))))
      refine wpQuiet_nil ?_
      intro W4 hw';have hb4:=dN hw';clear hw';have h04:=fD h03 hb4;have hB4:=fD hb0 h04;have fH:=hR.O _ h04;go_wp2_with (refine dU (.tmp 10) (.tmp 76) dV dV rfl fH rfl rfl (λw9 dS jg=>?_))
      have eF:=Below.gV hB4 jg;go_wp2_with fail;exact jl results72 dS rfl rfl (jJ dw.O eF)
     ·have hm':cell s.on b.toNat g.toNat+iC s b g+n<=200:=by omega
      have hdec:=iE hm;clear hm;by_cases hi:1048576<aZ s.jf g.toNat+n
      ·have dw:=ah (Js (n:=n) hc'.O kQ.O je1 (.inr hi));go_wp2_with fail;refine dO (by kernel_rfl) (by kernel_rfl) ?_
       repeat(go_big_quiet_step ((go_at_call 117;refine fV (Nl _ _ p s b g (hV2.O _ _) hsn.O))))
       refine wpQuiet_nil ?_
       intro W4 hw';have hb4:=dN hw';clear hw';have h04:=fD h03 hb4;have hB4:=fD hb0 h04;have fH:=hR.O _ h04;go_wp2_with (refine dU (.tmp 10) (.tmp 76) dV dV rfl fH rfl rfl (λw9 dS jg=>?_))
       have eF:=Below.gV hB4 jg;go_wp2_with fail;exact jl results72 dS rfl rfl (jJ dw.O eF)
      ·have hi':aZ s.jf g.toNat+n<=1048576:=by omega
       clear hi;have dw:=ah (WJ (n:=n) hc'.O kQ.O je1 hm' hi');go_wp2_with fail;refine dO (by kernel_rfl) (by kernel_rfl) ?_
       repeat(go_big_quiet_step ((go_at_call 117;refine fV (Nl _ _ p s b g (hV2.O _ _) hsn.O))))
       refine wpQuiet_nil ?_
       intro W4 hw';have hb4:=dN hw';clear hw';have h04:=fD h03 hb4;have hB4:=fD hb0 h04;clear q1 q2 q3 q4 hV2 hw1 hw2;clear y0 y1 x0 x1 x2 x3 x4 x5 x6 fB fC;obtain⟨⟨y0,y1⟩,x0,x1,x2,x3,x4,x5,x6,fB,fC⟩:=hK.O W4 (h04);clear Zp RZ ri;go_wp2_with fail;clear y0 y1 x0 x1 x2 x3 x4 x5 x6 fB fC;refine(FM _ _ p s (hV.O _ hB4) hsn.O).mono ?_
       rintro e W5 ⟨_,rfl,⟨V5,rfl,DC⟩,h5⟩;have rU:=(DC).one;have zV:=Dj (W5);go_wp2_with (refine dU (.tmp 13) (.tmp 78) dV V5 rfl zV rfl rU (λw6 nK Jv=>?_);refine bD ?_)
       unfold Hid;have vG:=xg Jv;have x9:=nK.lt;clear rU zV Jv;have h06:=h04.trans ((fD h5 vG).mono h04.size);have hB6:=fD hb0 h06;have jeZ:w.heap.size<=W4.heap.size:=hB4.size;have jcW:W0.heap.size<=W4.heap.size:=h04.size;have ho6:=(DC.below vG).drew;have jjT:jB w6.drew W5 V5:=nK;have jvs:=h06.drew;have jvk:=hB6.drew;obtain⟨go,co,RS,gr,cr2,cur,e1,f1,f2,f3,e2,f4,f5,f6⟩:=ho6.QZ hbl hgl;have hx0:w6.cell? W5=_:=nK.cells.1;rw[e1]at hx0
       have f3':w6.cell? ⟨go,b.toNat,none⟩=_:=f3;have f6':w6.cell? ⟨gr,g.toNat,none⟩=_:=f6;have hf:=f5.frozen g.toNat;have hst:=ho6.Zn hbl hgl e2 (cell s.on b.toNat g.toNat+n);have Ti:=jjT.off hst.2 f5 (by decide)
       have hw4:IntKind.i64.wrap (cell s.on b.toNat g.toNat+n)=cell s.on b.toNat g.toNat+n:=aP _ (by omega)
       have h07:=jvs.setCell (p:=⟨gr,g.toNat,none⟩) (aU jcW f4) (.int .i64 (cell s.on b.toNat g.toNat+n));have hB7:=jvk.setCell (p:=⟨gr,g.toNat,none⟩) (aU jeZ f4) (.int .i64 (cell s.on b.toNat g.toNat+n));go_wp2_with fail;go_still_tail 17,(by kernel_rfl)
       change wpList _ _ _ _ _ w6.drew;refine tC rfl (.tmp 95) (.tmp 94) rfl rfl gr g.toNat _ _ rfl rfl f6 hf (λw7 hw7=>?_)
       rw[hw7]at hst Ti h07 hB7
       clear hw7 hw4 hx0 hf f2 f3 f5 f6 f3' f6' e1 e2 ho6 nK jjT;refine eP ?_
       have I9:dX w7 W4 V5 {s with on:=setCell s.on b.toNat g.toNat (cell s.on b.toNat g.toNat+n)}:=hst.1
       have jjE:g.toNat<s.jf.length:=by omega
       have joq:=I9.drew;have jjS:jB w7.drew W5 V5:=Ti;obtain⟨gi,ci,jvJ,e3,k1,k2,k3⟩:=dX.CU (l:=s.jf) joq.jf jjE;have hx4:w7.cell? ⟨W5.heap.size,4,none⟩=_:=Ti.cells.2.2.2.2.1;rw[e3]at hx4
       have k3':w7.cell? ⟨gi,g.toNat,none⟩=_:=k3;have hfi:=k2.frozen g.toNat;have hst2:=joq.jia jjE e3 (aZ s.jf g.toNat+n);have IL:=jjS.off hst2.2 k2 (by decide)
       have h09:=h07.drew.setCell (p:=⟨gi,g.toNat,none⟩) (aU jcW k1) (.int .i64 (aZ s.jf g.toNat+n));have Bj:=hB7.drew.setCell (p:=⟨gi,g.toNat,none⟩) (aU jeZ k1) (.int .i64 (aZ s.jf g.toNat+n));go_wp2_with fail;go_still_tail 11,(by kernel_rfl)
       change wpList _ _ _ _ _ w7.drew;refine tC rfl (.tmp 106) (.tmp 105) rfl rfl gi g.toNat _ _ rfl rfl k3 hfi (λw8 hw8=>?_)
       rw[hw8]at hst2 IL h09 Bj
       clear hw8 hx4 hfi k2 k3 k3' e3;refine eP ?_
       have ho8:dX w8 W4 V5 {s with on:=setCell s.on b.toNat g.toNat (cell s.on b.toNat g.toNat+n),jf:=s.jf.set g.toNat (aZ s.jf g.toNat+n)}:=hst2.1
       have jjo:=ah ho8;have je7:=ah IL;clear hst hst2 I9 joq ho8 Ti jjS IL DC;have fH:=hR.O _ h09;obtain⟨b0,b1,b2,b3,b4,b5,b6⟩:=jB.cells je7.O;have lT:=dX.one jjo.O;go_wp2_with (refine dU (.tmp 10) (.tmp 107) dV V5 rfl fH rfl lT (λw9 dS jg=>?_))
       have wO:=dX.keptBy jjo.O jg fH;have eF:=Below.gV Bj jg;clear b0 b1 b2 b3 b4 b5 b6;go_wp2_with fail;exact jl results72 dS rfl rfl (F7 dw.O (wO.from_ jeZ) eF)
 ·have hne:(aO p s !=0)=true:=by simpa using hc
  have dw:=ah (UG (b:=b) (g:=g) (n:=n) hc);clear hc;have fH:=hR.O _ h1;go_wp2_with (refine dU (.tmp 10) (.tmp 19) dV dV rfl fH rfl rfl (λw9 dS jg=>?_))
  have eF:=Below.gV hB1 jg;go_wp2_with fail;exact jl results72 dS rfl rfl (jJ dw.O eF)
end
section
attribute [local go_sem] aV jF iY jI
theorem jd6{p:dG}{s:aI}(h:pz p s):small s=true:=by
 have hc:=h.counts;have h4:=h.nX;have h8:=h.uf;have h72:=qH h.aA;unfold small;simp only[dF,dI,bJ];refine⟨⟨⟨⟨⟨⟨⟨⟨?_,λr hr=>?_⟩,?_⟩,λo ho=>?_⟩,?_⟩,?_⟩,?_⟩,?_⟩,?_⟩
 ·rw[h.sO];omega
 ·obtain⟨i,hi,rfl⟩:=bg hr;have h1:=h.rowLen (b:=i) (by rw[<- h.sO];exact hi)
  rw[AU hi]at h1
  omega
 ·omega
 ·obtain⟨i,hi,rfl⟩:=bg ho;have h1:=h.rE hi;unfold aI.aC at h1
  rw[uO hi]at h1
  omega
 ·omega
 ·omega
 ·rw[h.jf.1];omega
 ·rw[h.O.1];omega
 ·rw[h.dB.1];omega
theorem Px{p:dG}{s:aI}(h:aO p s=0):small s=true:=jd6 (gB.1 h).1
end
section
attribute [local go_sem] aV jF iY jI
theorem jlf(w:World)(vs:Value)(s:aI)(hv:kG w w vs s)(h4:s.ak.length<=4):
  Calls prog 81 #[vs] w λe w'=>e=.returned ((G8 s))/\Below w w w':=by
 obtain⟨A0,c0,A1,c1,A2,c2,A3,c3,A4,c4,A5,c5,A6,c6,rfl,hV,hN,hO,hH,hM,hI,hU,hX,hl0,hl1,hl2,hl3,hl4,hl5,Jb⟩:=lY hv;go_enter func81,ntmps81
 go_wp2_with fail;obtain⟨W0,hW0,hb0,kX,um,hsE,hK⟩:=KD w s A0 c0 A1 c1 A2 c2 A3 c3 A4 c4 A5 c5 A6 c6;rw[hW0];clear hW0;go_loopw[4,3] (λi n wr=>∃k:Nat,k<=s.ak.length/\i=.int .i64 k/\n=.int .i64 (I4 s k)/\Below W0.heap.size W0 wr) (λi _ _=>s.ak.length - (RowKit.intOf i).toNat)
 case atStart=>exact⟨0,aN _,rfl,rfl,aj _ _⟩
 case round=>
  obtain⟨k,hk,rfl,rfl,h0⟩:=hrel;have hB:=fD hb0 h0;obtain⟨⟨y0,y1⟩,x0,x1,x2,x3,x4,x5,x6,fB,fC⟩:=hK.O wr (h0);by_cases hlt:k<s.ak.length
  ·have hki:(k:Int)<(s.ak.length:Int):=by omega
   obtain⟨A',c',I8,Gv,d0,d1,hsl⟩:=(hO.O wr hB).aC hlt;have hr:=Ns s k;have hs':=UJ s k;by_cases hkd:(bK s.ak k).eH=2
   ·have hq:((bK s.ak k).eH !=2)=false:=by simpa using hkd
    rw[aB hkd,je]at hs'
    have hs2:=ah hs';clear hkd hs';go_wp2_with fail;go_roundw
    case rel=>exact⟨k+1,by omega,by go_num,by rw[hs2.O],h0⟩
    case measure=>simp[dY];omega
   ·have hq:((bK s.ak k).eH !=2)=true:=by simpa using hkd
    rw[au hkd]at hs'
    have hs2:=ah hs';have hw1:IntKind.i64.wrap (I4 s k+1)=I4 s k+1:=aP _ (by omega)
    clear hkd hs';go_wp2_with fail;go_roundw
    case rel=>exact⟨k+1,by omega,by go_num,by rw[hs2.O],h0⟩
    case measure=>simp[dY];omega
  ·obtain rfl:k=s.ak.length:=by omega
   go_wp2_with fail;go_ret
   exact⟨rfl,hB⟩
end
end Wh
