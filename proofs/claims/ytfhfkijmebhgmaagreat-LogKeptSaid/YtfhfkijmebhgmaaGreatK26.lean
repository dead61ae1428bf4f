/- Texts of the claim, joined. -/
import Derived.StillTailTactics
import Derived.Laws.MakeOwn
import Derived.Still
import Derived.BigQuiet
import Derived.Test.YtfhfkijmebhgmaaGreatK25
set_option maxHeartbeats 20000000
set_option maxRecDepth 100000
namespace Wh
open Go Go.RowKit Go.Shelf Go.Proofs Tryz
attribute [local go_sem] aT
theorem jdo(w:World)(v vs:Value)(p:dA)(s:aJ)(b g n:Int)(hp:mW w w.heap.size v p)(hv:lK w w.heap.size vs s):
  Calls prog 51 #[v,vs,.int .i64 b,.int .i64 g,.int .i64 n] w (nN (rF p s b g n) w):=by
 obtain⟨Ab,cb,As,cs,rfl,hP',hBn,hSz,hlb,hls⟩:=sN hp;obtain⟨A0,c0,A1,c1,A2,c2,A3,c3,A4,c4,A5,c5,A6,c6,rfl,hV,hN,hO,hH,hM,hI,hU,hX,hl0,hl1,hl2,hl3,hl4,hl5,JA⟩:=oW hv;go_enter func51,ntmps51
 go_wp2_with fail;obtain⟨W0,hW0,hb0,lg,uZ,hsE,hK,hR⟩:=yD w p s Ab cb As cs A0 c0 A1 c1 A2 c2 A3 c3 A4 c4 A5 c5 A6 c6;rw[hW0];clear hW0;obtain⟨⟨y0,y1⟩,x0,x1,x2,x3,x4,x5,x6,eP,eU⟩:=hK.O W0 (aj W0.heap.size W0);go_wp2_with fail;clear y0 y1 x0 x1 x2 x3 x4 x5 x6 eP eU;refine(Ag _ _ _ p s (hP'.O _ hb0) (hV.O _ hb0)).mono ?_
 rintro e W1 ⟨rfl,h1⟩;have hB1:=hb0.trans (h1.mono hb0.size);obtain⟨⟨y0,y1⟩,x0,x1,x2,x3,x4,x5,x6,eP,eU⟩:=hK.O W1 (h1);by_cases hc:aQ p s=0
 ·have hc':=ah hc;have hsn:=ah (kM.1 hc).1;rw[hc];clear hc;go_wp2_with fail;clear y0 y1 x0 x1 x2 x3 x4 x5 x6 eP eU;have hcnt:=hsn.O.counts;refine(Ey _ _ p b (hP'.O _ hB1) (by omega)).mono ?_
  rintro e W2 ⟨rfl,h2⟩;have h02:=h1.trans (h2.mono h1.size);have hB2:=hb0.trans (h02.mono hb0.size);obtain⟨⟨y0,y1⟩,x0,x1,x2,x3,x4,x5,x6,eP,eU⟩:=hK.O W2 (h02);cases hth:lV p b
  ·have bK:=ah (BJ (g:=g) (n:=n) hc'.O (by rw[hth];rfl))
   clear hth;have fH:=hR.O _ h02;go_wp2_with (refine dB (.tmp 10) (.tmp 36) dH dH rfl fH rfl rfl (λw9 dM je=>?_))
   have dN:=Below.gB hB2 je;go_wp2_with fail;exact jo results51 dM rfl rfl (jQ bK.O dN)
  ·have hbb:=ah (yT.1 hth);have jf8:=ah hth;clear hth;go_wp2_with fail;clear y0 y1 x0 x1 x2 x3 x4 x5 x6 eP eU;refine(Ej _ _ p g (hP'.O _ hB2) (by omega)).mono ?_
   rintro e W8 ⟨rfl,h8⟩;have DY:=h02.trans (h8.mono h02.size);have Uz:=hb0.trans (DY.mono hb0.size);obtain⟨⟨y0,y1⟩,x0,x1,x2,x3,x4,x5,x6,eP,eU⟩:=hK.O W8 (DY);cases hth:iK p g
   ·have bK:=ah (BJ (n:=n) hc'.O (by rw[jf8.O,hth];rfl))
    clear hth;have fH:=hR.O _ DY;go_wp2_with (refine dB (.tmp 10) (.tmp 36) dH dH rfl fH rfl rfl (λw9 dM je=>?_))
    have dN:=Below.gB Uz je;go_wp2_with fail;exact jo results51 dM rfl rfl (jQ bK.O dN)
   have ZY:=ah (show(lV p b&&iK p g)=true by rw[jf8.O,hth];rfl)
   have hgg:=ah (vN.1 hth);clear hth;go_wp2_with fail;clear y0 y1 x0 x1 x2 x3 x4 x5 x6 eP eU;refine(oH n 1 200 _).mono ?_
   rintro e w' ⟨rfl,rfl⟩;obtain⟨⟨y0,y1⟩,x0,x1,x2,x3,x4,x5,x6,eP,eU⟩:=hK.O W8 (DY);cases hwn:cZ n 1 200
   ·have bK:=ah (BJ (b:=b) (g:=g) (n:=n) hc'.O (by rw[hwn,BN]))
    clear hwn;have fH:=hR.O _ DY;go_wp2_with (refine dB (.tmp 10) (.tmp 36) dH dH rfl fH rfl rfl (λw9 dM je=>?_))
    have dN:=Below.gB Uz je;go_wp2_with fail;exact jo results51 dM rfl rfl (jQ bK.O dN)
   ·have js2:=ah hwn;obtain⟨hn1,hn2⟩:=dV.1 hwn;clear hwn;have kE:=ah (show(lV p b&&iK p g&&cZ n 1 200)=true by rw[ZY.O,js2.O];rfl)
    have hb1:0<=b:=hbb.O.1;have hb2:b<(s.on.length:Int):=by rw[hsn.O.tY];exact hbb.O.2
    have hg1:0<=g:=hgg.O.1;have hg2:g<(p.aP.length:Int):=hgg.O.2;have hbl:b.toNat<s.on.length:=by omega
    have hgs:g.toNat<p.aP.length:=by omega
    have hgl:g.toNat<(fO s.on b.toNat).length:=by rw[hsn.O.rowLen (by have:=hbb.O;omega)];omega
    have hgr:g<((fO s.on b.toNat).length:Int):=by omega
    have hgi:g<(s.gY.length:Int):=by rw[hsn.O.gY.1];omega
    obtain⟨z1,z2⟩:=zH hsn.O.plan hgs;have hm1:=O5 (a:=n) (b:=bI p.aP g.toNat) (by omega) ⟨z1,z2⟩
    have hw1:IntKind.i64.wrap (n*bI p.aP g.toNat)=n*bI p.aP g.toNat:=aN _ (by omega)
    obtain⟨os0,ls0,rs0⟩:=(hSz.O W8 Uz).at_.int hgs;have q0:=λo d os=>bY (w:=W8) (b:=w.heap.size) eU o d os
    have q1:=λo d os=>bY (w:=W8) (b:=w.heap.size+1) eP o d os
    have q2:=λo d os=>bY (w:=W8) (b:=jd As) ls0 o d os
    have hP2:=ah (λd os=>hP'.O _ (Uz.trans ((kW W8 d os).mono Uz.size)))
    have hV2:=ah (λd os=>hV.O _ (Uz.trans ((kW W8 d os).mono Uz.size)))
    by_cases hfu:free p s b<n*bI p.aP g.toNat
    ·have bK:=ah (Q5 (n:=n) hc'.O kE.O hfu);go_wp2_with fail;refine dG (by kernel_rfl) (by kernel_rfl) ?_
     repeat(go_big_quiet_step ((go_at_call 106;refine gI (Zz _ _ _ p s b (hP2.O _ _) (hV2.O _ _) hsn.O hbb.O))))
     refine wpQuiet_nil ?_
     intro W3 hw';have hb3:=dD hw';clear hw';have h03:=DY.trans (hb3.mono DY.size);have hB3:=hb0.trans (h03.mono hb0.size);have fH:=hR.O _ h03;go_wp2_with (refine dB (.tmp 10) (.tmp 49) dH dH rfl fH rfl rfl (λw9 dM je=>?_))
     have dN:=Below.gB hB3 je;go_wp2_with fail;exact jo results51 dM rfl rfl (jQ bK.O dN)
    ·have jd3:n*bI p.aP g.toNat<=free p s b:=by omega
     go_wp2_with fail;refine dG (by kernel_rfl) (by kernel_rfl) ?_
     repeat(go_big_quiet_step ((go_at_call 106;refine gI (Zz _ _ _ p s b (hP2.O _ _) (hV2.O _ _) hsn.O hbb.O))))
     refine wpQuiet_nil ?_
     intro W3 hw';have hb3:=dD hw';clear hw';have h03:=DY.trans (hb3.mono DY.size);have hB3:=hb0.trans (h03.mono hb0.size);clear q0 q1 q2 hP2 hV2 hw1 rs0 os0 ls0;clear y0 y1 x0 x1 x2 x3 x4 x5 x6 eP eU;obtain⟨⟨y0,y1⟩,x0,x1,x2,x3,x4,x5,x6,eP,eU⟩:=hK.O W3 (h03);obtain⟨Ar,cr,or0,TQ,Yx,vS⟩:=(hN.O W3 hB3).row hbl;obtain⟨or1,lr1,QW⟩:=vS.at_.int hgl;obtain⟨oi,li,ri⟩:=(hI.O W3 hB3).at_.int (i:=g.toNat) (by omega)
     have hcl:bI (fO s.on b.toNat) g.toNat=cell s.on b.toNat g.toNat:=rfl;rw[hcl]at QW
     clear hcl;have t1:=hsn.O.cell (b:=b.toNat) (g:=g.toNat) (by have:=hbb.O;omega) hgs
     have t2:=xC hsn.O b g;have t3:=hsn.O.gY.2 hgs;have hw1:IntKind.i64.wrap (cell s.on b.toNat g.toNat+iq s b g)=cell s.on b.toNat g.toNat+iq s b g:=aN _ (by omega)
     have hw2:IntKind.i64.wrap (cell s.on b.toNat g.toNat+iq s b g+n)=cell s.on b.toNat g.toNat+iq s b g+n:=aN _ (by omega)
     have hw3:IntKind.i64.wrap (bI s.gY g.toNat+n)=bI s.gY g.toNat+n:=aN _ (by omega)
     have q1:=λo d os=>bY (w:=W3) (b:=w.heap.size+1) eP o d os
     have q2:=λo d os=>bY (w:=W3) (b:=jd A0) TQ o d os
     have q3:=λo d os=>bY (w:=W3) (b:=jd Ar) lr1 o d os
     have hV2:=ah (λd os=>hV.O _ (hB3.trans ((kW W3 d os).mono hB3.size)))
     have q4:=λo d os=>bY (w:=W3) (b:=jd A4) li o d os
     by_cases hm:200<cell s.on b.toNat g.toNat+iq s b g+n
     ·have bK:=ah (Io (n:=n) hc'.O kE.O jd3 (.inl hm));go_wp2_with fail;refine dG (by kernel_rfl) (by kernel_rfl) ?_
      repeat(go_big_quiet_step ((go_at_call 107;refine gI (LU _ _ p s b g (hV2.O _ _) hsn.O))))
      refine wpQuiet_nil ?_
      intro W4 hw';have hb4:=dD hw';clear hw';have h04:=h03.trans (hb4.mono h03.size);have hB4:=hb0.trans (h04.mono hb0.size);have fH:=hR.O _ h04;go_wp2_with (refine dB (.tmp 10) (.tmp 76) dH dH rfl fH rfl rfl (λw9 dM je=>?_))
      have dN:=Below.gB hB4 je;go_wp2_with fail;exact jo results51 dM rfl rfl (jQ bK.O dN)
     ·have hm':cell s.on b.toNat g.toNat+iq s b g+n<=200:=by omega
      have hdec:=fA hm;clear hm;by_cases hi:1048576<bI s.gY g.toNat+n
      ·have bK:=ah (Io (n:=n) hc'.O kE.O jd3 (.inr hi));go_wp2_with fail;refine dG (by kernel_rfl) (by kernel_rfl) ?_
       repeat(go_big_quiet_step ((go_at_call 107;refine gI (LU _ _ p s b g (hV2.O _ _) hsn.O))))
       refine wpQuiet_nil ?_
       intro W4 hw';have hb4:=dD hw';clear hw';have h04:=h03.trans (hb4.mono h03.size);have hB4:=hb0.trans (h04.mono hb0.size);have fH:=hR.O _ h04;go_wp2_with (refine dB (.tmp 10) (.tmp 76) dH dH rfl fH rfl rfl (λw9 dM je=>?_))
       have dN:=Below.gB hB4 je;go_wp2_with fail;exact jo results51 dM rfl rfl (jQ bK.O dN)
      ·have hi':bI s.gY g.toNat+n<=1048576:=by omega
       clear hi;have bK:=ah (Vw (n:=n) hc'.O kE.O jd3 hm' hi');go_wp2_with fail;refine dG (by kernel_rfl) (by kernel_rfl) ?_
       repeat(go_big_quiet_step ((go_at_call 107;refine gI (LU _ _ p s b g (hV2.O _ _) hsn.O))))
       refine wpQuiet_nil ?_
       intro W4 hw';have hb4:=dD hw';clear hw';have h04:=h03.trans (hb4.mono h03.size);have hB4:=hb0.trans (h04.mono hb0.size);clear q1 q2 q3 q4 hV2 hw1 hw2;clear y0 y1 x0 x1 x2 x3 x4 x5 x6 eP eU;obtain⟨⟨y0,y1⟩,x0,x1,x2,x3,x4,x5,x6,eP,eU⟩:=hK.O W4 (h04);clear Yx QW ri;go_wp2_with fail;clear y0 y1 x0 x1 x2 x3 x4 x5 x6 eP eU;refine(EI _ _ p s (hV.O _ hB4) hsn.O).mono ?_
       rintro e W5 ⟨_,rfl,⟨V5,rfl,AY⟩,h5⟩;have pq:=(AY).one;have xw:=vG (W5);go_wp2_with (refine dB (.tmp 13) (.tmp 78) dH V5 rfl xw rfl pq (λw6 lM Ib=>?_);refine aW ?_)
       unfold Hid;have sG:=qX Ib;have vT:=lM.lt;clear pq xw Ib;have h06:=h04.trans ((h5.trans (sG.mono h5.size)).mono h04.size);have Sm:=hb0.trans (h06.mono hb0.size);have jd1:w.heap.size<=W4.heap.size:=hB4.size;have jbY:W0.heap.size<=W4.heap.size:=h04.size;have ho6:=(AY.below sG).drew;have jiT:jk w6.drew W5.heap.size V5:=lM;have juy:=h06.drew;have juq:=Sm.drew;obtain⟨go,co,PE,gr,cr2,cur,e1,f1,f2,f3,e2,f4,f5,f6⟩:=ho6.Py hbl hgl;have hx0:w6.cell? ⟨W5.heap.size,0,none⟩=_:=lM.cells.1;rw[e1]at hx0
       have f3':w6.cell? ⟨go,b.toNat,none⟩=_:=f3;have f6':w6.cell? ⟨gr,g.toNat,none⟩=_:=f6;have hf:=f5.frozen g.toNat;have hst:=ho6.Yv hbl hgl e2 (cell s.on b.toNat g.toNat+n);have DR:=jiT.off hst.2 f5 (by decide)
       have hw4:IntKind.i64.wrap (cell s.on b.toNat g.toNat+n)=cell s.on b.toNat g.toNat+n:=aN _ (by omega)
       have h07:=juy.setCell (p:=⟨gr,g.toNat,none⟩) (aY jbY f4) (.int .i64 (cell s.on b.toNat g.toNat+n));have YW:=juq.setCell (p:=⟨gr,g.toNat,none⟩) (aY jd1 f4) (.int .i64 (cell s.on b.toNat g.toNat+n));go_wp2_with fail;go_still_tail 17,(by kernel_rfl)
       change wpList _ _ _ _ _ w6.drew;refine vC rfl (.tmp 95) (.tmp 94) rfl rfl gr g.toNat _ _ rfl rfl f6 hf (λw7 hw7=>?_)
       rw[hw7]at hst DR h07 YW
       clear hw7 hw4 hx0 hf f2 f3 f5 f6 f3' f6' e1 e2 ho6 lM jiT;refine fC ?_
       have Ia:dK w7 W4.heap.size V5 {s with on:=setCell s.on b.toNat g.toNat (cell s.on b.toNat g.toNat+n)}:=hst.1
       have jiG:g.toNat<s.gY.length:=by omega
       have jnp:=Ia.drew;have jiS:jk w7.drew W5.heap.size V5:=DR;obtain⟨gi,ci,juK,e3,k1,k2,k3⟩:=dK.BF (l:=s.gY) jnp.gY jiG;have hx4:w7.cell? ⟨W5.heap.size,4,none⟩=_:=DR.cells.2.2.2.2.1;rw[e3]at hx4
       have k3':w7.cell? ⟨gi,g.toNat,none⟩=_:=k3;have hfi:=k2.frozen g.toNat;have hst2:=jnp.jg8 jiG e3 (bI s.gY g.toNat+n);have KW:=jiS.off hst2.2 k2 (by decide)
       have h09:=h07.drew.setCell (p:=⟨gi,g.toNat,none⟩) (aY jbY k1) (.int .i64 (bI s.gY g.toNat+n));have LD:=YW.drew.setCell (p:=⟨gi,g.toNat,none⟩) (aY jd1 k1) (.int .i64 (bI s.gY g.toNat+n));go_wp2_with fail;go_still_tail 11,(by kernel_rfl)
       change wpList _ _ _ _ _ w7.drew;refine vC rfl (.tmp 106) (.tmp 105) rfl rfl gi g.toNat _ _ rfl rfl k3 hfi (λw8 hw8=>?_)
       rw[hw8]at hst2 KW h09 LD
       clear hw8 hx4 hfi k2 k3 k3' e3;refine fC ?_
       have ho8:dK w8 W4.heap.size V5 {s with on:=setCell s.on b.toNat g.toNat (cell s.on b.toNat g.toNat+n),gY:=s.gY.set g.toNat (bI s.gY g.toNat+n)}:=hst2.1
       have jip:=ah ho8;have jea:=ah KW;clear hst hst2 Ia jnp ho8 DR jiS KW AY;have fH:=hR.O _ h09;obtain⟨b0,b1,b2,b3,b4,b5,b6⟩:=jk.cells jea.O;have lG:=dK.one jip.O;go_wp2_with (refine dB (.tmp 10) (.tmp 107) dH V5 rfl fH rfl lG (λw9 dM je=>?_))
       have wC:=dK.keptBy jip.O je fH (by decide) (by decide) (by decide) (by decide) (by decide) (by decide)
       have dN:=Below.gB LD je;clear b0 b1 b2 b3 b4 b5 b6;go_wp2_with fail;exact jo results51 dM rfl rfl (EZ bK.O (wC.from_ jd1) dN)
 ·have hne:(aQ p s !=0)=true:=by simpa using hc
  have bK:=ah (TK (b:=b) (g:=g) (n:=n) hc);clear hc;have fH:=hR.O _ h1;go_wp2_with (refine dB (.tmp 10) (.tmp 19) dH dH rfl fH rfl rfl (λw9 dM je=>?_))
  have dN:=Below.gB hB1 je;go_wp2_with fail;exact jo results51 dM rfl rfl (jQ bK.O dN)
end Wh
namespace Wh
open Go Go.RowKit Go.Shelf Go.Proofs Tryz
attribute [local go_sem] aT jW jm kC
theorem jaE{α:Type}{P:α->Bool}{l:List α}(d:α){k:Nat}(hk:k<l.length)(h:P (l.getD k d)=true):l.any P=true:=by
 rw[lu];refine⟨l[k],bU hk,?_⟩
 simpa[hk]using h
theorem any_none{α:Type}{P:α->Bool}{l:List α}(d:α)(h:∀k,k<l.length->P (l.getD k d)=false):l.any P=false:=by
 rw[qp];intro x hx;obtain⟨k,hk,rfl⟩:=aV hx;have:=h k hk;simp[hk]at this
 simp[this]
theorem jho(w:World)(v vs vl:Value)(p:dA)(s:aJ)(l:List Line)(hp:mW w w.heap.size v p)(hv:lK w w.heap.size vs s)(hl:Sl kP w w.heap.size vl l):
  Calls prog 52 #[v,vs,vl] w (nN (enter p s l) w):=by
 have hL:=ah hl;obtain⟨Al,cl,rfl,hll,hAl⟩:=hl;clear hAl;obtain⟨Ab,cb,As,cs,rfl,hP',hBn,hSz,hlb,hls⟩:=sN hp;obtain⟨A0,c0,A1,c1,A2,c2,A3,c3,A4,c4,A5,c5,A6,c6,rfl,hV,hN,hO,hH,hM,hI,hU,hX,hl0,hl1,hl2,hl3,hl4,hl5,JA⟩:=oW hv;go_enter func52,ntmps52
 go_wp2_with fail;obtain⟨W0,hW0,hb0,lg,uZ,hsE,hK,hR⟩:=yD w p s Ab cb As cs A0 c0 A1 c1 A2 c2 A3 c3 A4 c4 A5 c5 A6 c6;rw[hW0];clear hW0;obtain⟨⟨y0,y1⟩,x0,x1,x2,x3,x4,x5,x6,eP,eU⟩:=hK.O W0 (aj W0.heap.size W0);go_wp2_with fail;clear y0 y1 x0 x1 x2 x3 x4 x5 x6 eP eU;refine(Ag _ _ _ p s (hP'.O _ hb0) (hV.O _ hb0)).mono ?_
 rintro e W1 ⟨rfl,h1⟩;have hB1:=hb0.trans (h1.mono hb0.size);obtain⟨⟨y0,y1⟩,x0,x1,x2,x3,x4,x5,x6,eP,eU⟩:=hK.O W1 (h1);by_cases hc:aQ p s=0
 ·have hc':=ah hc;have hsn:=ah (kM.1 hc).1;rw[hc];clear hc;have hcnt:=hsn.O.counts;by_cases Uw:4<=s.ak.length
  ·have bK:=ah (Jq (l:=l) hc'.O (.inl (by omega)))
   have jiq:(4:Int)<=(s.ak.length:Int):=by omega
   clear Uw;have fH:=hR.O _ h1;go_wp2_with (refine dB (.tmp 6) (.tmp 29) dH dH rfl fH rfl rfl (λw9 dM je=>?_))
   have dN:=Below.gB hB1 je;go_wp2_with fail;exact jo results52 dM rfl rfl (jQ bK.O dN)
  have jto:(s.ak.length:Int)<4:=by omega
  have ho:s.ak.length<4:=by omega
  clear Uw;go_wp2_with fail;refine(oH l.length 1 3 _).mono ?_
  rintro e w' ⟨rfl,rfl⟩;cases hw:cZ l.length 1 3
  ·have bK:=ah (Jq (p:=p) (s:=s) (l:=l) hc'.O (.inr (by have:=nU.1 hw;omega)))
   clear hw;have fH:=hR.O _ h1;go_wp2_with (refine dB (.tmp 6) (.tmp 29) dH dH rfl fH rfl rfl (λw9 dM je=>?_))
   have dN:=Below.gB hB1 je;go_wp2_with fail;exact jo results52 dM rfl rfl (jQ bK.O dN)
  have Z8:1<=l.length/\l.length<=3:=by have:=dV.1 hw;omega
  clear hw;go_wp2_with fail;go_loopw[9] (λi wr=>∃k:Nat,k<=l.length/\i=.int .i64 k/\(∀j,j<k->yH p (gK l j)=false)/\Below W0.heap.size W0 wr) (λi _=>l.length - (RowKit.intOf i).toNat)
  case atStart=>exact⟨0,aK _,rfl,λj hj=>by omega,h1⟩
  case round=>
   clear y0 y1 x0 x1 x2 x3 x4 x5 x6 eP eU;obtain⟨k,hk,rfl,kE,hbw⟩:=hrel;have hall':=ah kE;have hB:=hb0.trans (hbw.mono hb0.size);clear kE hB1 h1;obtain⟨⟨y0,y1⟩,x0,x1,x2,x3,x4,x5,x6,eP,eU⟩:=hK.O wr (hbw);by_cases hlt:k<l.length
   ·obtain⟨hok2,PD,e0,e1,e2,e3⟩:=(hL.O.grow hB).at_.aG hlt;have hlt':(k:Int)<(l.length:Int):=by omega
    have q0:=λo d os=>bY (w:=wr) (b:=w.heap.size) eU o d os
    have q1:=λo d os=>bY (w:=wr) (b:=jd Al) PD o d os
    have hP2:=ah (λd os=>hP'.O _ (hB.trans ((kW wr d os).mono hB.size)))
    cases hg:iK p (gK l k).dh
    ·have hbad:yH p (gK l k)=true:=by unfold yH;rw[hg];rfl
     have bK:=ah (Ov hc'.O ho Z8 (jaE Lc hlt hbad));have hrg:∀W:World,mW W W.heap.size (.agg #[.slice Ab p.bQ.length cb,.slice As p.aP.length cs]) p->Calls prog 69 #[.agg #[.slice Ab p.bQ.length cb,.slice As p.aP.length cs],.int .i64 (gK l k).dh] W λe w'=>e=.returned (.bool false)/\Below W.heap.size W w':=λW hW=>by
      have:=Ej W _ p (gK l k).dh hW (by omega)
      rwa [hg]at this
     have jdT:=ah hrg;clear hg hbad hrg;go_wp2_with fail;refine dG (by kernel_rfl) (by kernel_rfl) ?_
     repeat(go_big_quiet_step ((go_at_call 69;refine gI (jdT.O _ (hP2.O _ _)))))
     refine wpQuiet_nil ?_
     intro W2 hw';have hb2:=dD hw';clear hw';have h02:=hbw.trans (hb2.mono hbw.size);have hB2:=hb0.trans (h02.mono hb0.size);clear q0 q1;have fH:=hR.O _ h02;go_wp2_with (refine dB (.tmp 6) (.tmp 53) dH dH rfl fH rfl rfl (λw9 dM je=>?_))
     have dN:=Below.gB hB2 je;go_wp2_with fail;exact jo results52 dM rfl rfl (jQ bK.O dN)
    ·have hrg:∀W:World,mW W W.heap.size (.agg #[.slice Ab p.bQ.length cb,.slice As p.aP.length cs]) p->Calls prog 69 #[.agg #[.slice Ab p.bQ.length cb,.slice As p.aP.length cs],.int .i64 (gK l k).dh] W λe w'=>e=.returned (.bool true)/\Below W.heap.size W w':=λW hW=>by
      have:=Ej W _ p (gK l k).dh hW (by omega)
      rwa [hg]at this
     have jdT:=ah hrg;clear hrg;cases hw:cZ (gK l k).iw 1 200
     ·have hbad:yH p (gK l k)=true:=by unfold yH;rw[hg,hw];rfl
      have bK:=ah (Ov hc'.O ho Z8 (jaE Lc hlt hbad));have hrw:∀W:World,Calls prog 38 #[.int .i64 (gK l k).iw,.int .i64 1,.int .i64 200] W λe w'=>e=.returned (.bool false)/\W=w':=λW=>by
       have:=oH (gK l k).iw 1 200 W;rwa [hw]at this
      have jnf:=ah hrw;clear hg hw hbad hrw;go_wp2_with fail;refine dG (by kernel_rfl) (by kernel_rfl) ?_
      repeat(go_big_quiet_step (first|(go_at_call 69;refine gI (jdT.O _ (hP2.O _ _)))|(go_at_call 38;refine Dn (jnf.O _))))
      refine wpQuiet_nil ?_
      intro W2 hw';have hb2:=dD hw';clear hw';have h02:=hbw.trans (hb2.mono hbw.size);have hB2:=hb0.trans (h02.mono hb0.size);clear q0 q1;have fH:=hR.O _ h02;go_wp2_with (refine dB (.tmp 6) (.tmp 53) dH dH rfl fH rfl rfl (λw9 dM je=>?_))
      have dN:=Below.gB hB2 je;go_wp2_with fail;exact jo results52 dM rfl rfl (jQ bK.O dN)
     ·have hok:yH p (gK l k)=false:=by unfold yH;rw[hg,hw];rfl
      have hok':=ah hok;have hrw:∀W:World,Calls prog 38 #[.int .i64 (gK l k).iw,.int .i64 1,.int .i64 200] W λe w'=>e=.returned (.bool true)/\W=w':=λW=>by
       have:=oH (gK l k).iw 1 200 W;rwa [hw]at this
      have jnf:=ah hrw;clear hg hw hok hrw;go_wp2_with fail;refine dG (by kernel_rfl) (by kernel_rfl) ?_
      repeat(go_big_quiet_step (first|(go_at_call 69;refine gI (jdT.O _ (hP2.O _ _)))|(go_at_call 38;refine Dn (jnf.O _))))
      refine wpQuiet_nil ?_
      intro W2 hw';have hb2:=dD hw';clear hw';have h02:=hbw.trans (hb2.mono hbw.size);clear q0 q1;go_wp2_with fail;go_roundw
      case rel=>
       refine⟨k+1,by omega,by go_num,λj hj=>?_,h02⟩
       rcases aS.1 hj with h|rfl
       ·exact hall'.O j h
       ·exact hok'.O
      case measure=>simp[RowKit.intOf];omega
   ·obtain rfl:k=l.length:=by omega
    have hnb:=ah (any_none Lc hall'.O);clear hall';go_wp2_with fail;go_loopw[10] (λi wr=>∃k:Nat,k<=l.length/\i=.int .i64 k/\(∀j,j<k->Ku (gK l j)=false)/\Below W0.heap.size W0 wr) (λi _=>l.length - (RowKit.intOf i).toNat)
    case atStart=>exact⟨0,aK _,rfl,λj hj=>by omega,hbw⟩
    case round=>
     clear y0 y1 x0 x1 x2 x3 x4 x5 x6 eP eU;clear hbw hB;obtain⟨k,hk,rfl,kE,hbw⟩:=hrel;have hall':=ah kE;have hB:=hb0.trans (hbw.mono hb0.size);clear kE;obtain⟨⟨y0,y1⟩,x0,x1,x2,x3,x4,x5,x6,eP,eU⟩:=hK.O wr (hbw);by_cases hlt:k<l.length
     ·obtain⟨hok2,PD,e0,e1,e2,e3⟩:=(hL.O.grow hB).at_.aG hlt;have hlt':(k:Int)<(l.length:Int):=by omega
      rcases Ri (gK l k)with⟨g1,hf⟩|⟨g1,g2,hf⟩|⟨g1,g2,hf⟩
      ·have bK:=ah (QM hc'.O ho Z8 hnb.O (jaE Lc hlt hf));clear hf;have fH:=hR.O _ hbw;go_wp2_with (refine dB (.tmp 6) (.tmp 74) dH dH rfl fH rfl rfl (λw9 dM je=>?_))
       have dN:=Below.gB hB je;go_wp2_with fail;exact jo results52 dM rfl rfl (jQ bK.O dN)
      ·have bK:=ah (QM hc'.O ho Z8 hnb.O (jaE Lc hlt hf));clear hf;have fH:=hR.O _ hbw;go_wp2_with (refine dB (.tmp 6) (.tmp 74) dH dH rfl fH rfl rfl (λw9 dM je=>?_))
       have dN:=Below.gB hB je;go_wp2_with fail;exact jo results52 dM rfl rfl (jQ bK.O dN)
      ·have hf':=ah hf;clear hf;go_wp2_with fail;go_roundw
       case rel=>
        refine⟨k+1,by omega,by go_num,λj hj=>?_,hbw⟩
        rcases aS.1 hj with h|rfl
        ·exact hall'.O j h
        ·exact hf'.O
       case measure=>simp[RowKit.intOf];omega
     ·obtain rfl:k=l.length:=by omega
      have hnn:=any_none Lc hall'.O;have bK:=ah (jcs hc'.O ho Z8 hnb.O hnn);clear hnn hall';go_wp2_with fail;clear y0 y1 x0 x1 x2 x3 x4 x5 x6 eP eU;refine(EI _ _ p s (hV.O _ hB) hsn.O).mono ?_
      rintro e W5 ⟨_,rfl,⟨V5,rfl,AY⟩,h5⟩;have pq:=(AY).one;have xw:=vG (W5);go_wp2_with (refine dB (.tmp 11) (.tmp 76) dH V5 rfl xw rfl pq (λw6 lM Ib=>?_);refine aW ?_)
      unfold Hid;have sG:=qX Ib;have vT:=lM.lt;clear pq xw Ib;have hx6:=ah (Bx.of lM (AY.below sG));have h06:=hbw.trans ((h5.trans (sG.mono h5.size)).mono hbw.size);have Sm:=hb0.trans (h06.mono hb0.size);have hle3:w.heap.size<=wr.heap.size:=hB.size;have jq5:W0.heap.size<=wr.heap.size:=hbw.size;have zZ:wr.heap.size<=W5.heap.size:=h5.size;have jtz:W5.heap.size<w6.heap.size:=vT;clear lM AY sG h5 vT;go_wp2_with fail;refine qZ 7 [λgq _=>gq 77=.pointer (some ⟨W5.heap.size,1,none⟩),λgq _=>gq 78=V5.ak,λgq w'=>(λv w'=>∃b,v=.slice (some ⟨b,0,none⟩) 0 0/\w6.heap.size<=b/\iV w' b 44 []) (gq 79) w',λgq _=>gq 80=.slice Al l.length cl,λgq w'=>(λv w'=>Own kP 4 44 w' w6.heap.size v l) (gq 81) w',λgq w'=>(λv w'=>∃u,v=.agg #[.int .i64 0,u]/\Own kP 4 44 w' w6.heap.size u l) (gq 82) w',λgq w'=>(λv w'=>∃bb u,v=.slice (some ⟨bb,0,none⟩) 1 1/\w'.cell? ⟨bb,0,none⟩=some (.int .i64 0)/\w'.cell? ⟨bb,1,none⟩=some u/\bb<w'.heap.size/\Own kP 4 44 w' w6.heap.size u l) (gq 83) w'] (by kernel_rfl) (by kernel_rfl) rfl (by kernel_rfl) ?_ (λf w2 hb2 hR=>?_)
      simp only[bC,bV];refine dX.cons (iR.val rfl rfl (λgq w' hb ho hd=>?_)) ?_
      ·have e11:=ho 11 rfl;go_simp
      refine dX.cons (iR.val rfl rfl (λgq w' hb ho hd=>?_)) ?_
      ·have e77:gq 77=.pointer (some ⟨W5.heap.size,1,none⟩):=hd ⟨0,.data⟩ (by simp) rfl (by decide)
       have x1:=(hx6.O.below hb).cells.2.1;go_simp
      refine dX.cons (iR.one (d:=79) (p:=(λv w'=>∃b,v=.slice (some ⟨b,0,none⟩) 0 0/\w6.heap.size<=b/\iV w' b 44 [])) rfl rfl (λv w1 w2 h hb=>let ⟨b,h1,h2,h3⟩:=h;⟨b,h1,h2,h3.below hb h3.lt⟩) (λgq w' hb ho hd=>?_)) ?_
      ·unfold iT;go_simp
       exact⟨⟨hb.size,iV.new _ _ _⟩,(aj _ _).alloc (au _) _⟩
      refine dX.cons (iR.val rfl rfl (λgq w' hb ho hd=>?_)) ?_
      ·have e2:=ho 2 rfl;go_simp
      refine dX.cons (iR.one (d:=81) (p:=(λv w'=>Own kP 4 44 w' w6.heap.size v l)) rfl rfl (λv w1 w2 h hb=>h.below hb) (λgq w' hb ho hd=>?_)) ?_
      ·have e79:∃b,(gq 79)=.slice (some ⟨b,0,none⟩) 0 0/\w6.heap.size<=b/\iV w' b 44 []:=hd ⟨2,.data⟩ (by simp) rfl (by decide)
       have e80:gq 80=.slice Al l.length cl:=hd ⟨3,.data⟩ (by simp) rfl (by decide)
       obtain⟨bb,e3,S9,Cc⟩:=e79;have hAt:=(hL.O.grow (Sm.trans (hb.mono Sm.size))).at_;obtain⟨u,w3,hr,hb3,h0,h⟩:=vF (P:=prog) w' 32 32 44 _ 4 32 underlying32 NR rfl (by decide) (by decide) bb Cc l Al cl w'.heap.size (λ_=>rfl) hAt (by omega)
       unfold iT;simp only[execOp,resolve,invoke,builtin,jW,e80,e3,jg,jw,iC,kJ,dn,jL,hr];exact⟨(h (by omega)).from_ hb.size,hb3⟩
      refine dX.cons (iR.one (d:=82) (p:=(λv w'=>∃u,v=.agg #[.int .i64 0,u]/\Own kP 4 44 w' w6.heap.size u l)) rfl rfl (λv w1 w2 h hb=>let ⟨u,h1,h2⟩:=h;⟨u,h1,h2.below hb⟩) (λgq w' hb ho hd=>?_)) ?_
      ·have e81:Own kP 4 44 w' w6.heap.size (gq 81) l:=hd ⟨4,.data⟩ (by simp) rfl (by decide)
       obtain⟨E,kc,s30⟩:=e81.isSlice;rw[s30]at e81
       have e':=ah e81;clear e81;unfold iT;go_simp
       exact⟨e'.O,aj _ _⟩
      refine dX.cons (iR.one (d:=83) (p:=(λv w'=>∃bb u,v=.slice (some ⟨bb,0,none⟩) 1 1/\w'.cell? ⟨bb,0,none⟩=some (.int .i64 0)/\w'.cell? ⟨bb,1,none⟩=some u/\bb<w'.heap.size/\Own kP 4 44 w' w6.heap.size u l)) rfl rfl (λv w1 w2 h hb=>let ⟨bb,u,h1,h2,h2',h3,h4⟩:=h;⟨bb,u,h1,(hb.cell (p:=⟨bb,0,none⟩) h3).trans h2,(hb.cell (p:=⟨bb,1,none⟩) h3).trans h2',aI h3 hb.size,h4.below hb⟩) (λgq w' hb ho hd=>?_)) ?_
      ·have e82:∃u,(gq 82)=.agg #[.int .i64 0,u]/\Own kP 4 44 w' w6.heap.size u l:=hd ⟨5,.data⟩ (by simp) rfl (by decide)
       obtain⟨u,e82,hu⟩:=e82;obtain⟨E,kc,s30⟩:=hu.isSlice;rw[s30]at e82 hu
       have e':=ah hu;clear hu;unfold iT;go_simp
       exact⟨e'.O.alloc _,(aj _ _).alloc (au _) _⟩
      exact dX.nil;obtain⟨r77,r78,r79,r80,r81,r82,r83,_⟩:=hR;replace r79:∃b,(f 79)=.slice (some ⟨b,0,none⟩) 0 0/\w6.heap.size<=b/\iV w2 b 44 []:=r79;replace r81:Own kP 4 44 w2 w6.heap.size (f 81) l:=r81;replace r82:∃u,(f 82)=.agg #[.int .i64 0,u]/\Own kP 4 44 w2 w6.heap.size u l:=r82;replace r83:∃bb u,(f 83)=.slice (some ⟨bb,0,none⟩) 1 1/\w2.cell? ⟨bb,0,none⟩=some (.int .i64 0)/\w2.cell? ⟨bb,1,none⟩=some u/\bb<w2.heap.size/\Own kP 4 44 w2 w6.heap.size u l:=r83;simp only[kG,zB,bC,bV,eG,gW,eX,fF,fB,gV,bM,dF,dL,r77,r78,r80];clear r77 r78 r80;obtain⟨bb,u,r4,d0,d1,l4,o4⟩:=r83;simp only[r4];clear r4 r81 r82;obtain⟨E,kc,rfl⟩:=o4.isSlice;have hx2:=hx6.O.below hb2;have Uw:=uJ hx2.own.llen;refine lS _ rfl (.tmp 78) (.tmp 83) 27 42 rfl wr.heap.size _ 2 32 underlying27 O9 rfl (by decide) (by decide) V5.ak (zI s.ak V5.aH) (0,.slice E l.length kc) rfl hx2.own.ak ⟨bb,0,none⟩ 1 rfl rfl (λj x hj=>by
       rw[gU,eY];match j,hj with
       |0,hj=>exact d0.trans hj
       |1,hj=>exact d1.trans hj
       |j+2,hj=>simp[Nl]at hj) (ZJ _ rfl) (by omega) (by have:=hb2.size;omega) ?_
      intro v7 w7 yM LC Tc ET;obtain⟨hk7,Ia⟩:=hx6.O.KJ hb2 (x:=⟨0,l⟩) (o4.from_ (by omega)) (λg hg=>(o4.size g hg).1) LC yM
      obtain⟨Av,cv,hv7⟩:=yM.isSlice;simp only[aZ,dw,dY,eY]at hv7
      have h07:=h06.trans ((hb2.mono h06.size).trans (ET.mono (by omega)))
      have hT7:=hx2.ty;rw[hv7]at Ia
      rw[hv7];have Z7:=ah Ia;have jiE:=ah hk7;clear yM LC Tc hv7 d0 d1 l4 o4 hx2 Uw hk7 Ia;go_wp2_with (refine PI rfl (.tmp 85) (.tmp 84) rfl rfl Av _ cv jiE.O Z7.O hT7 rfl rfl rfl (λw8 KQ AX=>?_);refine aW ?_)
      unfold Hid;have jf9:=h07.size;have DY:=h07.trans (AX.below (B:=W0.heap.size) (λk hk=>by omega) jf9)
      have Uz:=hb0.trans (DY.mono hb0.size);obtain⟨V8,KQ⟩:∃V8,Bx w8 wr.heap.size W5.heap.size 31 [] V8 {s with ak:=s.ak++[⟨0,l⟩]}:=⟨_,KQ⟩
      have vP:=ah KQ;clear Z7 jiE KQ AX jf9;have fH:=hR.O _ DY;obtain⟨b0,b1,b2,b3,b4,b5,b6⟩:=jk.cells vP.O.uK;have lG:=dK.one vP.O.own;go_wp2_with (refine dB (.tmp 6) (.tmp 86) dH V8 rfl fH rfl lG (λw9 dM je=>?_))
      have wC:=dK.keptBy vP.O.own je fH (by decide) (by decide) (by decide) (by decide) (by decide) (by decide)
      have dN:=Below.gB Uz je;clear b0 b1 b2 b3 b4 b5 b6;go_wp2_with fail;exact jo results52 dM rfl rfl (EZ bK.O (wC.from_ hle3) dN)
 ·have hne:(aQ p s !=0)=true:=by simpa using hc
  have bK:=ah (Y6 (l:=l) hc);clear hc;have fH:=hR.O _ h1;go_wp2_with (refine dB (.tmp 6) (.tmp 17) dH dH rfl fH rfl rfl (λw9 dM je=>?_))
  have dN:=Below.gB hB1 je;go_wp2_with fail;exact jo results52 dM rfl rfl (jQ bK.O dN)
end Wh
namespace Wh
open Go Go.RowKit Go.Shelf Go.Proofs Tryz
attribute [local go_sem] aT jW jm kC
theorem Own.BI{α:Type}{enc:α->List Value}{size:Nat}{e:TypeId}{w:World}{aO g:Nat}{cs:Array Value}{l:List α}(hb:aO<=g)(hg:w.heap[g]?=some (.cells cs e))(hc:cs.toList=l.flatMap enc)
  (hk:∀x,(enc x).length=size) (hl:l.length<=1000000):Own enc size e w aO (.slice (some ⟨g,0,none⟩) l.length l.length) l:=by
 refine⟨by rw[kL enc size hk],.inr ⟨g,l.length,cs,rfl,hb,hg,au _,by unfold maxLen;omega,?_,?_⟩⟩
 ·rw[<- nG,hc,kL enc size hk]
 ·rw[hc,<- kL enc size hk,fG]
def Xo:aJ:=⟨[[9,0],[3,0],[0,6]],[⟨1,[⟨0,6,1,0⟩,⟨1,9,0,3⟩]⟩,⟨0,[⟨0,4,0,0⟩]⟩],[⟨0,0,0,2⟩,⟨0,0,1,3⟩,⟨0,1,2,6⟩],[⟨0,0,1,5⟩],[13,6],[1,0],[0,0]⟩
def RX(n:Nat):SV:=
 ⟨.slice (some ⟨n+4,0,none⟩) 3 3,.slice (some ⟨n+7,0,none⟩) 2 2,.slice (some ⟨n+8,0,none⟩) 3 3,.slice (some ⟨n+9,0,none⟩) 1 1,.slice (some ⟨n+10,0,none⟩) 2 2,.slice (some ⟨n+11,0,none⟩) 2 2,.slice (some ⟨n+12,0,none⟩) 2 2,[.slice (some ⟨n+1,0,none⟩) 2 2,.slice (some ⟨n+2,0,none⟩) 2 2,.slice (some ⟨n+3,0,none⟩) 2 2],[.slice (some ⟨n+5,0,none⟩) 2 2,.slice (some ⟨n+6,0,none⟩) 1 1]⟩
def jjJ(n:Nat):List Obj:=[
 .cells (RX n).cells.toArray 31,.cells #[.int .i64 9,.int .i64 0] 3,.cells #[.int .i64 3,.int .i64 0] 3,.cells #[.int .i64 0,.int .i64 6] 3,.cells #[.slice (some ⟨n+1,0,none⟩) 2 2,.slice (some ⟨n+2,0,none⟩) 2 2,.slice (some ⟨n+3,0,none⟩) 2 2] 23,.cells #[.int .i64 0,.int .i64 6,.int .i64 1,.int .i64 0,.int .i64 1,.int .i64 9,.int .i64 0,.int .i64 3] 44,.cells #[.int .i64 0,.int .i64 4,.int .i64 0,.int .i64 0] 44,.cells #[.int .i64 1,.slice (some ⟨n+5,0,none⟩) 2 2,.int .i64 0,.slice (some ⟨n+6,0,none⟩) 1 1] 42,.cells #[.int .i64 0,.int .i64 0,.int .i64 0,.int .i64 2,.int .i64 0,.int .i64 0,.int .i64 1,.int .i64 3,.int .i64 0,.int .i64 1,.int .i64 2,.int .i64 6] 46,.cells #[.int .i64 0,.int .i64 0,.int .i64 1,.int .i64 5] 48,.cells #[.int .i64 13,.int .i64 6] 3,.cells #[.int .i64 1,.int .i64 0] 3,.cells #[.int .i64 0,.int .i64 0] 3]
def lay(w:World)(os:List Obj):World:={w with heap:=w.heap++os.toArray}
theorem jfX(w:World)(os:List Obj)(o:Obj):(lay w os).alloc o=lay w (os++[o]):=by
 unfold lay World.alloc;simp
theorem jkC(w:World):lay w []=w:=by unfold lay;simp
theorem jfV(w:World)(os:List Obj):lay w os=os.foldl World.alloc w:=by
 suffices h:∀(os ps:List Obj),lay w (ps++os)=os.foldl World.alloc (lay w ps)by
  have:=h os [];rwa [jkC]at this
 intro os;induction os with
 |nil=>intro ps;simp
 |cons o os ih=>
  intro ps;have:=ih (ps++[o]);rw[fB,jfX,<- this];simp
theorem jfW(w:World)(os:List Obj):Below w.heap.size w (lay w os):=kW w w.drawn os.toArray
theorem jm4(w:World)(os:List Obj)(i:Nat):(lay w os).heap[w.heap.size+i]?=os[i]?:=by
 unfold lay;rw[xY (by omega)]
 simp
theorem jlD(w:World):dK (lay w (jjJ w.heap.size)) w.heap.size (RX w.heap.size) Xo:=by
 have H:=jm4 w (jjJ w.heap.size);refine⟨Own.BI (by omega) (H 4) rfl (λ_=>rfl) (by simp[RX]),rfl,λb hb=>?_,Own.BI (by omega) (H 7) rfl (λ_=>rfl) (by simp[zI,Xo,RX]),rfl,λo ho=>?_,Own.BI (by omega) (H 8) rfl (λ_=>rfl) (by decide),Own.BI (by omega) (H 9) rfl (λ_=>rfl) (by decide),Own.BI (by omega) (H 10) rfl (λ_=>rfl) (by decide),Own.BI (by omega) (H 11) rfl (λ_=>rfl) (by decide),Own.BI (by omega) (H 12) rfl (λ_=>rfl) (by decide),?_,?_⟩
 ·match b,hb with
  |0,_=>exact Own.BI (l:=([9,0]:List Int)) (by omega) (H 1) rfl (λ_=>rfl) (by decide)
  |1,_=>exact Own.BI (l:=([3,0]:List Int)) (by omega) (H 2) rfl (λ_=>rfl) (by decide)
  |2,_=>exact Own.BI (l:=([0,6]:List Int)) (by omega) (H 3) rfl (λ_=>rfl) (by decide)
  |b+3,hb=>simp[Xo]at hb;omega
 ·match o,ho with
  |0,_=>exact Own.BI (l:=([⟨0,6,1,0⟩,⟨1,9,0,3⟩]:List Line)) (by omega) (H 5) rfl (λ_=>rfl) (by decide)
  |1,_=>exact Own.BI (l:=([⟨0,4,0,0⟩]:List Line)) (by omega) (H 6) rfl (λ_=>rfl) (by decide)
  |o+2,ho=>simp[Xo]at ho;omega
 ·unfold D6 RX;simp[Value.ownBlock]
 ·unfold D6 RX;simp[Value.ownBlock]
theorem jqs(w:World):Calls prog 42 #[] w λe w'=>∃V,e=.returned V.val/\dK w' w.heap.size V Xo/\Below w.heap.size w w':=by
 go_enter func42,ntmps42
 go_wp2_with fail;have h1:=jlD w;have h2:=jfW w (jjJ w.heap.size);rw[jfV]at h1 h2
 refine fD (v:=(RX w.heap.size).val) ?_ rfl ⟨RX w.heap.size,rfl,h1,h2⟩
 simp[results,results42,go_sem,SV.val,RX]
def small(s:aJ):Bool:=decide (s.on.length<=1000)&&s.on.all (λr=>decide (r.length<=1000))&&decide (s.ak.length<=1000)&&s.ak.all (λo=>decide (o.aH.length<=1000))&&decide (s.aA.length<=1000)&&decide (s.aF.length<=1000)&&decide (s.gY.length<=1000)&&decide (s.O.length<=1000)&&decide (s.bg.length<=1000)
theorem dK.view0{w:World}{aO:Nat}{V:SV}{s:aJ}(h:dK w aO V s)(hs:small s=true):lK w w.heap.size V.val s:=by
 unfold small at hs
 simp only[bG,bD,aX]at hs
 obtain⟨⟨⟨⟨⟨⟨⟨⟨s1,s2⟩,s3⟩,s4⟩,s5⟩,s6⟩,s7⟩,s8⟩,s9⟩:=hs;obtain⟨A,c,hv,_,hA⟩:=h.on.sl (by rw[h.rlen];omega)
 obtain⟨A1,c1,hv1,_,hA1⟩:=h.ak.sl (by rw[uJ h.llen];omega)
 refine⟨_,_,_,_,_,_,_,rfl,⟨A,c,V.rows,by rw[hv,h.rlen],by omega,h.rlen,?_,λi x hi=>?_⟩,⟨A1,c1,V.aH,by rw[hv1,uJ h.llen],by omega,h.llen,?_,λi x hi=>?_⟩,h.aA.sl (by omega),h.aF.sl (by omega),h.gY.sl (by omega),h.O.sl (by omega),h.bg.sl (by omega)⟩
 ·have:V.rows.flatMap (λu=>[u])=V.rows:=by simp
  rw[this]at hA
  exact hA
 ·have hil:i<s.on.length:=(eF.1 hi).1
  have hx:fO s.on i=x:=by rw[xZ hil];exact(eF.1 hi).2
  have:=s2 x (tC hi);exact⟨_,h.jhf hil,by rw[<- hx];exact(h.row i hil).sl (by rw[hx];omega)⟩
 ·have e:(s.ak.zip V.aH).flatMap (λx=>[Value.int .i64 x.1.dW,x.2])=(zI s.ak V.aH).flatMap Nl:=by
   unfold zI Nl;rw[Cj,wR,wR,wQ,wQ]
  rw[e];exact hA1
 ·have hil:i<s.ak.length:=(eF.1 hi).1
  have hx:s.aC i=x:=by unfold aJ.aC;rw[uy hil];exact(eF.1 hi).2
  have:=s4 x (tC hi);exact⟨_,h.je7 hil,by rw[<- hx];exact(h.aG i hil).sl (by rw[hx];omega)⟩
end Wh
namespace Wh
open Go Go.RowKit Go.Shelf Go.Proofs Tryz
attribute [local go_sem] aT jW jm kC
section
variable {p:dA} {s:aJ} {b g n e:Int} (w:World) (v vs:Value) (hp:mW w w.heap.size v p) (hv:lK w w.heap.size vs s)
include hp hv
theorem jlV(h:aQ p s=e):Calls prog 23 #[v,vs] w λx w'=>x=.returned (.int .i64 e)/\Below w.heap.size w w':=by
 have:=Nz w v vs p s hp hv;rwa [h]at this
end
section
variable {p:dA} {on:List (List Int)} {b g e:Int} (w:World) (v vo:Value) (hp:mW w w.heap.size v p) (ho:FW jJ w w.heap.size vo on)
include hp ho
end
end Wh
namespace Wh
open Go Go.RowKit Go.Shelf Go.Proofs Tryz
attribute [local go_sem] aT jW jm kC
theorem jdg{p:dA}{s:aJ}(h:o9 p s):small s=true:=by
 have hc:=h.counts;have h4:=h.qH;have h8:=h.vJ;have h72:=su h.aA;unfold small;simp only[bG,bD,aX];refine⟨⟨⟨⟨⟨⟨⟨⟨?_,λr hr=>?_⟩,?_⟩,λo ho=>?_⟩,?_⟩,?_⟩,?_⟩,?_⟩,?_⟩
 ·rw[h.tY];omega
 ·obtain⟨i,hi,rfl⟩:=aV hr;have h1:=h.rowLen (b:=i) (by rw[<- h.tY];exact hi)
  rw[xZ hi]at h1
  omega
 ·omega
 ·obtain⟨i,hi,rfl⟩:=aV ho;have h1:=h.tN hi;unfold aJ.aC at h1
  rw[uy hi]at h1
  omega
 ·omega
 ·omega
 ·rw[h.gY.1];omega
 ·rw[h.O.1];omega
 ·rw[h.bg.1];omega
theorem OB{p:dA}{s:aJ}(h:aQ p s=0):small s=true:=jdg (kM.1 h).1
end Wh
namespace Wh
open Go Go.RowKit Go.Shelf Go.Proofs Tryz
attribute [local go_sem] aT jW jm kC
theorem At.tail{w:World}{B g o:Nat}{xs ys:List Value}(h:At w B (some ⟨g,o,none⟩) (xs++ys)):At w B (some ⟨g,o+xs.length,none⟩) ys:=by
 intro hn;obtain⟨h1,h2,h3⟩:=h (by simp[hn])
 refine⟨⟨g,_,rfl⟩,h2,λj v hj=>?_⟩
 have:=h3 (xs.length+j) v (by rw[jX (by omega),Nat.add_sub_cancel_left];exact hj)
 rw[<- Ci]at this
 exact this
end Wh
namespace Wh
open Go Go.RowKit Go.Shelf Go.Proofs Tryz
attribute [local go_sem] aT jW jm kC
theorem QN(p:dA)(s:aJ)(x:yK):small (act p s x).1=true:=by
 by_cases h:(act p s x).2=0
 ·exact OB (jcN h).2.check
 ·have:(act p s x).1=jD:=by
   have f:∀ {r:aJ×Int},(r.2≠0->r.1=jD)->r.2≠0->r.1=jD:=λh h2=>h h2
   revert h
   unfold act;split
   ·unfold rF;repeat' split
    all_goals(intro h;first|rfl|exact absurd rfl h)
   split
   ·unfold enter;repeat' split
    all_goals(intro h;first|rfl|exact absurd rfl h)
   split
   ·unfold zq;repeat' split
    all_goals(intro h;first|rfl|exact absurd rfl h)
   split
   ·unfold zJ;repeat' split
    all_goals(intro h;first|rfl|exact absurd rfl h)
   split
   ·unfold pick;repeat' split
    all_goals(intro h;first|rfl|exact absurd rfl h)
   split
   ·unfold fill;repeat' split
    all_goals(intro h;first|rfl|exact absurd rfl h)
   split
   ·unfold CW;repeat' split
    all_goals(intro h;first|rfl|exact absurd rfl h)
   split
   ·unfold count;repeat' split
    all_goals(intro h;first|rfl|exact absurd rfl h)
   intro _;rfl
  rw[this];decide
end Wh
namespace Wh
open Go Go.RowKit Go.Shelf Go.Proofs Tryz
attribute [local go_sem] aT jW jm kC
theorem Ih{P:Program}(w:World){α:Type}{enc:α->List Value}{ops:Array Oper}{rest:List Oper}{o:Oper}{a:Act}{Q:Exit->Act->World->Prop}(hgd:o.guard=none)(s x:Operand)(t e:TypeId)
  (ho:o.op=.call {callee:=.builtin .append,args:=#[s,x],argTypes:=#[t,t]}) (aO:Nat) (z:Value) (size bytes:Nat) (ht:P.underlying t=some (.slice e)) (hi:Elem P e z size bytes)
  (hzs:z.cells.size=size) (hsz:0<size) (v:Value) (l:List α) (y:α) (hs:a.eval s=v) (lC:Own enc size e w aO v l)
  (ad:Addr) (c:Nat) (hx:a.eval x=.slice (some ad) 1 c) (hl:(enc y).length=size) (hnews:∀j u,(enc y)[j]?=some u->w.cell? (ad.add j)=some u) (h1:∀u∈enc y,u.oneCell'=true)
  (hn:(l.length+1)*bytes<=140737488355328) (hn2:l.length+1<=140737488355328) (rV:aO<=w.heap.size)
  (h:∀v' w',Own enc size e w' aO v' (l++[y])->w.grownBy w' v.ownBlock->(v'.ownBlock=v.ownBlock\/v'.ownBlock=some w.heap.size)->Below aO w w'->wpList P ops Q rest (a.put o.dst v') w'):
  wpList P ops Q (o::rest) a w:=by
 obtain⟨i,hi,hz,G8,hbytes⟩:=hi;refine wpList_append_own_at w hgd s x t ho aO e i z size bytes ht hi hz G8 hbytes hzs hsz v l.length _ hs lC ad 1 c (enc y) hx (by rw[hl,Es]) hnews h1 (by unfold maxLen;omega) hn rV ?_
 intro v' w' h2 h3 _ h5;refine h v' w' ?_ h3 h5 ((aj _ _).grown h3 rV λk hk=>(nK lC k hk).1)
 unfold Own;rw[aZ,gy];simpa using h2
def Qd(n:Nat):List Value:=[.int .u8 n]
theorem one_byte(n:Nat):∀u∈Qd n,u.oneCell'=true:=by simp[Qd,Value.oneCell']
theorem infoByte:Elem prog 5 (.int .u8 0) 1 1:=Iu (by kernel_rfl)
def oq(n:Int):Nat:=(IntKind.u8.wrap n).toNat
theorem Uk(n:Int):IntKind.u8.wrap n=(oq n:Int):=by
 unfold oq;rw[AL];omega
theorem BL{n:Int}(h:qJ n=true):oq n=n.toNat:=by
 rw[L8]at h
 unfold oq;rw[AL];omega
def Gz(w:World)(aO pb:Nat)(v:Value)(bad:Bool)(bs:List Nat):Prop:=iV w pb 117 [v,.bool bad]/\Own Qd 1 5 w aO v bs
theorem Gz.below{w w':World}{aO pb:Nat}{v:Value}{bad:Bool}{bs:List Nat}(h:Gz w aO pb v bad bs)(hb:Below w.heap.size w w'):Gz w' aO pb v bad bs:=
 ⟨h.1.below hb h.1.lt,h.2.below hb⟩
theorem Gz.alloc{w:World}{aO pb:Nat}{v:Value}{bad:Bool}{bs:List Nat}(h:Gz w aO pb v bad bs)(o:Obj):Gz (w.alloc o) aO pb v bad bs:=h.below ((aj _ _).alloc (au _) _)
theorem Gz.push{w w':World}{aO pb:Nat}{v v':Value}{bad:Bool}{bs bs':List Nat}(h:Gz w aO pb v bad bs)(hg:w.grownBy w' v.ownBlock)(ho:Own Qd 1 5 w' aO v' bs'):Gz (w'.setCell ⟨pb,0,none⟩ v') aO pb v' bad bs'/\w'.grownBy (w'.setCell ⟨pb,0,none⟩ v') (some pb):=by
 have hb:iV w' pb 117 [v,.bool bad]:=h.1.grown hg (by
  rcases Own.mQ h.2 h.1 (by decide)with hn|hn
  ·rw[hn];intro he;cases he
  ·exact λhe=>hn he.symm)
 obtain⟨h1,h2⟩:=xA hb 0 v';exact⟨⟨h1,ho.kept h2 (Own.mQ ho hb (by decide))⟩,h2⟩
theorem Gz.mark{w:World}{aO pb:Nat}{v:Value}{bad:Bool}{bs:List Nat}(h:Gz w aO pb v bad bs)(c:Bool):Gz (w.setCell ⟨pb,1,none⟩ (.bool c)) aO pb v c bs/\w.grownBy (w.setCell ⟨pb,1,none⟩ (.bool c)) (some pb):=by
 obtain⟨h1,h2⟩:=xA h.1 1 (.bool c);exact⟨⟨h1,h.2.kept h2 (Own.mQ h.2 h.1 (by decide))⟩,h2⟩
end Wh
namespace Wh
open Go Go.RowKit Go.Shelf Go.Proofs Tryz
attribute [local go_sem] aT jW jm kC
section
variable {ops:Array Oper} {rest:List Oper} {o:Oper} {a:Act} {w:World} {Q:Exit→Act→World→Prop} {aO pb:Nat} {v:Value} {bad:Bool} {bs:List Nat}
theorem OQ(hgd:o.guard=none)(x y:Operand)(ho:o.op=.store 4 x y)(hn:o.dst=none){c:Bool}(hP:Gz w aO pb v bad bs)(hx:a.eval x=.pointer (some ⟨pb,1,none⟩))(hy:a.eval y=.bool c)
  (h:∀w',Gz w' aO pb v c bs->w.grownBy w' (some pb)->wpList prog ops Q rest a w'):wpList prog ops Q (o::rest) a w:=
 jv hgd λK hK=>by
  obtain⟨h1,h2⟩:=hP.mark c;have h3:=h _ h1 h2;have hc:=hP.1.cell (j:=1) rfl;have hf:=hP.1.frozen 1;clear h hP h1 h2;unfold Oper.wp;simp only[execOp,ho,hx,hy];go_simp
  exact hK _ _ h3
theorem OO(hgd:o.guard=none)(x y:Operand)(ho:o.op=.store 115 x y)(hn:o.dst=none){w0:World}{A:Option Addr}{n c:Nat}{bs':List Nat}(hP:Gz w0 aO pb v bad bs)(hg:w0.grownBy w v.ownBlock)(hO:Own Qd 1 5 w aO (.slice A n c) bs')
  (hx:a.eval x=.pointer (some ⟨pb,0,none⟩)) (hy:a.eval y=.slice A n c)
  (h:∀w',Gz w' aO pb (.slice A n c) bad bs'->w.grownBy w' (some pb)->wpList prog ops Q rest a w'):wpList prog ops Q (o::rest) a w:=
 jv hgd λK hK=>by
  obtain⟨h1,h2⟩:=hP.push hg hO;have h3:=h _ h1 h2;have hb:iV w pb 117 [v,.bool bad]:=hP.1.grown hg (by
   rcases Own.mQ hP.2 hP.1 (by decide)with hn|hn
   ·rw[hn];intro he;cases he
   ·exact λhe=>hn he.symm)
  have hc:=hb.cell (j:=0) rfl;have hf:=hb.frozen 0;clear h hP h1 h2 hg hO hb;unfold Oper.wp;simp only[execOp,ho,hx,hy];go_simp
  exact hK _ _ h3
end
theorem UO{l:List Int}{k:Nat}(h:k<l.length)(bad:Bool):(bad||!((l.take (k+1)).all qJ))=((bad||!((l.take k).all qJ))||!qJ l[k]):=by
 rw[Dq h,AB];cases bad<;>cases(l.take k).all qJ<;>cases h2:qJ l[k]<;>simp[h2]
theorem Ru{n:Int}:qJ n=false↔n<0\/255<n:=by
 rw[Bool.eq_false_iff,Ne,L8];omega
theorem jlX(w:World){aO pb lb:Nat}{v:Value}{bad:Bool}{bs:List Nat}{l:List Int}(hP:Gz w aO pb v bad bs)(rV:aO<=w.heap.size)(hl:iV w lb 3 (l.map (Value.int .i64)))(hn:l.length<=8)(hbn:bs.length<=70368744177664):
  Calls prog 84 #[.pointer (some ⟨pb,0,none⟩),.slice (some ⟨lb,0,none⟩) l.length l.length] w λe w'=>e=.returned (.tuple #[])/\∃v',Gz w' aO pb v' (bad||!(l.all qJ)) (bs++l.map oq)/\
   (∀k,v'.ownBlock=some k->v.ownBlock=some k\/w.heap.size<=k)/\Step (λj=>j=pb\/v.ownBlock=some j) w w':=by
 have hP':=ah hP;have hl':=ah hl;have hll:=hl.lt;clear hP hl;go_enter func84,ntmps84
 go_wp2_with fail;go_loopw[8,5] (λi _ wr=>∃(k:Nat) (v':Value),k<=l.length/\i=.int .i64 k/\Gz wr aO pb v' (bad||!((l.take k).all qJ)) (bs++(l.take k).map oq)/\(∀q,v'.ownBlock=some q->v.ownBlock=some q\/w.heap.size<=q)/\Step (λj=>j=pb\/v.ownBlock=some j) w wr) (λi _ _=>l.length - (RowKit.intOf i).toNat)
 case atStart=>exact⟨0,v,aK _,rfl,by simpa using hP'.O,λq hq=>.inl hq,Step.refl _ _⟩
 case round=>
  obtain⟨k,v',hk,rfl,hP,hvb,hst⟩:=hrel;have SI:=ah hvb;have hst':=ah hst;clear hvb hst;have jqL:=hst'.O.size;by_cases hlt:k<l.length
  ·have hki:(k:Int)<(l.length:Int):=by omega
   have jnU:=hst'.O.blk hl'.O (λhh=>by
    rcases hh with rfl|hh
    ·exact(hl'.O.ne hP'.O.1 (by decide)) rfl
    ·rcases Own.mQ hP'.O.2 hl'.O (by decide)with h|h
     ·rw[h]at hh;cases hh
     ·exact h hh)
   obtain⟨x,hx⟩:∃x,l[k]=x:=⟨_,rfl⟩;have hcx:wr.cell? ⟨lb,k,none⟩=some (.int .i64 x):=jnU.cell (j:=k) (by rw[iZ,bf hlt,hx];rfl)
   have hx':=ah hx;have hwx:=Uk x;obtain⟨bo,hbo⟩:∃bo,(bad||!((l.take k).all qJ))=bo:=⟨_,rfl⟩
   obtain⟨bs1,jag⟩:∃bs1,bs++(l.take k).map oq=bs1:=⟨_,rfl⟩;rw[hbo,jag]at hP
   have kD:bs1.length+1<=140737488355328:=by
    rw[<- jag,aZ,fU,bT];omega
   have hPr:=ah hP;have c0:=hP.1.cell (j:=0) rfl;have c1:=hP.1.cell (j:=1) rfl;have lpb:=hP.1.lt;have llb:=jnU.lt;have jk9:=ah hbo;have hbs':=ah jag;clear hP jnU hbo jag hx;cases bo
   ·by_cases h1:x<0
    ·have t1:=iG h1;have hY:qJ l[k]=false:=by rw[hx'.O];exact Ru.2 (.inl h1)
     clear h1;have hR:(bad||!((l.take (k+1)).all qJ))=true:=by rw[UO hlt,jk9.O];simp[hY]
     have hR':=ah hR;clear hR hY;go_wp2_with (refine OQ rfl (.tmp 26) (.tmp 24) rfl rfl (c:=true) hPr.O rfl rfl (λw2 hP2 hg2=>?_);refine aW ?_)
     unfold Hid;have QG:=ah hP2;have c0:=hP2.1.cell (j:=0) rfl;have lp2:=hP2.1.lt;have hsz2:=hg2.size;have hst2:=ah (hst'.O.trans (Step.jR (ks:=λj=>j=pb\/v.ownBlock=some j) hg2 (λq hq=>.inl (by injection hq with hq;exact hq.symm))))
     clear hP2 hg2 c1 hcx lpb;go_wp2_with (refine Ih _ rfl (.tmp 31) (.tmp 34) 115 5 rfl aO _ 1 1 underlying115 infoByte rfl (by decide) v' bs1 (oq x) rfl (QG.O.2.alloc _) ⟨w2.heap.size,0,none⟩ 1 rfl rfl (uF _ _ _) (one_byte _) (by rw[nC];exact kD) kD (by rw[cO];omega) (λv9 w9 E8 je Np Hq=>?_);refine aW ?_)
     unfold Hid;obtain⟨A9,c9,rfl⟩:=E8.isSlice;have MB:=ah E8;have NZ:=ah je;have hPa:=ah (QG.O.alloc (.cells #[.int .u8 (oq x)] 5));clear E8 je c0;go_wp2_with (refine OO rfl (.tmp 37) (.tmp 35) rfl rfl hPa.O NZ.O MB.O rfl rfl (λw10 WH Cb=>?_);refine aW ?_)
     unfold Hid;have WG:=ah (show Gz w10 aO pb _ (bad||!((l.take (k+1)).all qJ)) (bs++(l.take (k+1)).map oq)by rw[hR'.O,Dq hlt,fJ,<- eH,hbs'.O,dn,jL,hx'.O];exact WH)
     have xu:=ah (((hst2.O.trans (Step.of_below ((aj _ _).alloc (au _) (.cells #[.int .u8 (oq x)] 5)))).trans' (Step.jR (ks:=λq=>v'.ownBlock=some q) NZ.O (λq hq=>hq)) (λq hq h=>.inr ((SI.O q h).resolve_right (by omega)))).trans (Step.jR (ks:=λj=>j=pb\/v.ownBlock=some j) Cb (λq hq=>.inl (by injection hq with hq;exact hq.symm))))
     have jdQ:=ah (show ∀q,(Value.slice A9 (bs1++[oq x]).length c9).ownBlock=some q->v.ownBlock=some q\/w.heap.size<=q from λq hq=>by
      rcases Np with h|h
      ·exact SI.O q (by rw[<- h];exact hq)
      ·rw[h,cO]at hq
       injection hq with hq
       have:=hst2.O.size;exact .inr (by omega))
     clear WH Cb Np Hq MB NZ hPa QG hst2 hPr SI hst';go_wp2_with fail;go_roundw
     case rel=>exact⟨k+1,_,by omega,by go_num,WG.O,jdQ.O,xu.O⟩
     case measure=>simp[RowKit.intOf];omega
    ·have t1:=fA h1;by_cases h2:255<x
     ·have t2:=iG h2;have hY:qJ l[k]=false:=by rw[hx'.O];exact Ru.2 (.inr h2)
      clear h1 h2;have hR:(bad||!((l.take (k+1)).all qJ))=true:=by rw[UO hlt,jk9.O];simp[hY]
      have hR':=ah hR;clear hR hY;go_wp2_with (refine OQ rfl (.tmp 26) (.tmp 24) rfl rfl (c:=true) hPr.O rfl rfl (λw2 hP2 hg2=>?_);refine aW ?_)
      unfold Hid;have QG:=ah hP2;have c0:=hP2.1.cell (j:=0) rfl;have lp2:=hP2.1.lt;have hsz2:=hg2.size;have hst2:=ah (hst'.O.trans (Step.jR (ks:=λj=>j=pb\/v.ownBlock=some j) hg2 (λq hq=>.inl (by injection hq with hq;exact hq.symm))))
      clear hP2 hg2 c1 hcx lpb;go_wp2_with (refine Ih _ rfl (.tmp 31) (.tmp 34) 115 5 rfl aO _ 1 1 underlying115 infoByte rfl (by decide) v' bs1 (oq x) rfl (QG.O.2.alloc _) ⟨w2.heap.size,0,none⟩ 1 rfl rfl (uF _ _ _) (one_byte _) (by rw[nC];exact kD) kD (by rw[cO];omega) (λv9 w9 E8 je Np Hq=>?_);refine aW ?_)
      unfold Hid;obtain⟨A9,c9,rfl⟩:=E8.isSlice;have MB:=ah E8;have NZ:=ah je;have hPa:=ah (QG.O.alloc (.cells #[.int .u8 (oq x)] 5));clear E8 je c0;go_wp2_with (refine OO rfl (.tmp 37) (.tmp 35) rfl rfl hPa.O NZ.O MB.O rfl rfl (λw10 WH Cb=>?_);refine aW ?_)
      unfold Hid;have WG:=ah (show Gz w10 aO pb _ (bad||!((l.take (k+1)).all qJ)) (bs++(l.take (k+1)).map oq)by rw[hR'.O,Dq hlt,fJ,<- eH,hbs'.O,dn,jL,hx'.O];exact WH)
      have xu:=ah (((hst2.O.trans (Step.of_below ((aj _ _).alloc (au _) (.cells #[.int .u8 (oq x)] 5)))).trans' (Step.jR (ks:=λq=>v'.ownBlock=some q) NZ.O (λq hq=>hq)) (λq hq h=>.inr ((SI.O q h).resolve_right (by omega)))).trans (Step.jR (ks:=λj=>j=pb\/v.ownBlock=some j) Cb (λq hq=>.inl (by injection hq with hq;exact hq.symm))))
      have jdQ:=ah (show ∀q,(Value.slice A9 (bs1++[oq x]).length c9).ownBlock=some q->v.ownBlock=some q\/w.heap.size<=q from λq hq=>by
       rcases Np with h|h
       ·exact SI.O q (by rw[<- h];exact hq)
       ·rw[h,cO]at hq
        injection hq with hq
        have:=hst2.O.size;exact .inr (by omega))
      clear WH Cb Np Hq MB NZ hPa QG hst2 hPr SI hst';go_wp2_with fail;go_roundw
      case rel=>exact⟨k+1,_,by omega,by go_num,WG.O,jdQ.O,xu.O⟩
      case measure=>simp[RowKit.intOf];omega
     ·have t2:=fA h2;have hY:qJ l[k]=true:=by rw[hx'.O];exact L8.2 (by omega)
      clear h1 h2;have hR:(bad||!((l.take (k+1)).all qJ))=false:=by rw[UO hlt,jk9.O];simp[hY]
      have hR':=ah hR;clear hR hY;go_wp2_with (refine OQ rfl (.tmp 26) (.tmp 24) rfl rfl (c:=false) hPr.O rfl rfl (λw2 hP2 hg2=>?_);refine aW ?_)
      unfold Hid;have QG:=ah hP2;have c0:=hP2.1.cell (j:=0) rfl;have lp2:=hP2.1.lt;have hsz2:=hg2.size;have hst2:=ah (hst'.O.trans (Step.jR (ks:=λj=>j=pb\/v.ownBlock=some j) hg2 (λq hq=>.inl (by injection hq with hq;exact hq.symm))))
      clear hP2 hg2 c1 hcx lpb;go_wp2_with (refine Ih _ rfl (.tmp 31) (.tmp 34) 115 5 rfl aO _ 1 1 underlying115 infoByte rfl (by decide) v' bs1 (oq x) rfl (QG.O.2.alloc _) ⟨w2.heap.size,0,none⟩ 1 rfl rfl (uF _ _ _) (one_byte _) (by rw[nC];exact kD) kD (by rw[cO];omega) (λv9 w9 E8 je Np Hq=>?_);refine aW ?_)
      unfold Hid;obtain⟨A9,c9,rfl⟩:=E8.isSlice;have MB:=ah E8;have NZ:=ah je;have hPa:=ah (QG.O.alloc (.cells #[.int .u8 (oq x)] 5));clear E8 je c0;go_wp2_with (refine OO rfl (.tmp 37) (.tmp 35) rfl rfl hPa.O NZ.O MB.O rfl rfl (λw10 WH Cb=>?_);refine aW ?_)
      unfold Hid;have WG:=ah (show Gz w10 aO pb _ (bad||!((l.take (k+1)).all qJ)) (bs++(l.take (k+1)).map oq)by rw[hR'.O,Dq hlt,fJ,<- eH,hbs'.O,dn,jL,hx'.O];exact WH)
      have xu:=ah (((hst2.O.trans (Step.of_below ((aj _ _).alloc (au _) (.cells #[.int .u8 (oq x)] 5)))).trans' (Step.jR (ks:=λq=>v'.ownBlock=some q) NZ.O (λq hq=>hq)) (λq hq h=>.inr ((SI.O q h).resolve_right (by omega)))).trans (Step.jR (ks:=λj=>j=pb\/v.ownBlock=some j) Cb (λq hq=>.inl (by injection hq with hq;exact hq.symm))))
      have jdQ:=ah (show ∀q,(Value.slice A9 (bs1++[oq x]).length c9).ownBlock=some q->v.ownBlock=some q\/w.heap.size<=q from λq hq=>by
       rcases Np with h|h
       ·exact SI.O q (by rw[<- h];exact hq)
       ·rw[h,cO]at hq
        injection hq with hq
        have:=hst2.O.size;exact .inr (by omega))
      clear WH Cb Np Hq MB NZ hPa QG hst2 hPr SI hst';go_wp2_with fail;go_roundw
      case rel=>exact⟨k+1,_,by omega,by go_num,WG.O,jdQ.O,xu.O⟩
      case measure=>simp[RowKit.intOf];omega
   ·have hY:True:=trivial;have hR:(bad||!((l.take (k+1)).all qJ))=true:=by rw[UO hlt,jk9.O];simp[Bool.true_or]
    have hR':=ah hR;clear hR hY;go_wp2_with (refine OQ rfl (.tmp 26) (.tmp 24) rfl rfl (c:=true) hPr.O rfl rfl (λw2 hP2 hg2=>?_);refine aW ?_)
    unfold Hid;have QG:=ah hP2;have c0:=hP2.1.cell (j:=0) rfl;have lp2:=hP2.1.lt;have hsz2:=hg2.size;have hst2:=ah (hst'.O.trans (Step.jR (ks:=λj=>j=pb\/v.ownBlock=some j) hg2 (λq hq=>.inl (by injection hq with hq;exact hq.symm))))
    clear hP2 hg2 c1 hcx lpb;go_wp2_with (refine Ih _ rfl (.tmp 31) (.tmp 34) 115 5 rfl aO _ 1 1 underlying115 infoByte rfl (by decide) v' bs1 (oq x) rfl (QG.O.2.alloc _) ⟨w2.heap.size,0,none⟩ 1 rfl rfl (uF _ _ _) (one_byte _) (by rw[nC];exact kD) kD (by rw[cO];omega) (λv9 w9 E8 je Np Hq=>?_);refine aW ?_)
    unfold Hid;obtain⟨A9,c9,rfl⟩:=E8.isSlice;have MB:=ah E8;have NZ:=ah je;have hPa:=ah (QG.O.alloc (.cells #[.int .u8 (oq x)] 5));clear E8 je c0;go_wp2_with (refine OO rfl (.tmp 37) (.tmp 35) rfl rfl hPa.O NZ.O MB.O rfl rfl (λw10 WH Cb=>?_);refine aW ?_)
    unfold Hid;have WG:=ah (show Gz w10 aO pb _ (bad||!((l.take (k+1)).all qJ)) (bs++(l.take (k+1)).map oq)by rw[hR'.O,Dq hlt,fJ,<- eH,hbs'.O,dn,jL,hx'.O];exact WH)
    have xu:=ah (((hst2.O.trans (Step.of_below ((aj _ _).alloc (au _) (.cells #[.int .u8 (oq x)] 5)))).trans' (Step.jR (ks:=λq=>v'.ownBlock=some q) NZ.O (λq hq=>hq)) (λq hq h=>.inr ((SI.O q h).resolve_right (by omega)))).trans (Step.jR (ks:=λj=>j=pb\/v.ownBlock=some j) Cb (λq hq=>.inl (by injection hq with hq;exact hq.symm))))
    have jdQ:=ah (show ∀q,(Value.slice A9 (bs1++[oq x]).length c9).ownBlock=some q->v.ownBlock=some q\/w.heap.size<=q from λq hq=>by
     rcases Np with h|h
     ·exact SI.O q (by rw[<- h];exact hq)
     ·rw[h,cO]at hq
      injection hq with hq
      have:=hst2.O.size;exact .inr (by omega))
    clear WH Cb Np Hq MB NZ hPa QG hst2 hPr SI hst';go_wp2_with fail;go_roundw
    case rel=>exact⟨k+1,_,by omega,by go_num,WG.O,jdQ.O,xu.O⟩
    case measure=>simp[RowKit.intOf];omega
  ·obtain rfl:k=l.length:=by omega
   rw[fG]at hP
   have hPr:=ah hP;clear hP;go_wp2_with fail;go_end0
   exact⟨rfl,v',hPr.O,SI.O,hst'.O⟩
end Wh
