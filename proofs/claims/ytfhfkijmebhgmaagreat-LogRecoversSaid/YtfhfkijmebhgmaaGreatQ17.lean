/- Texts of the claim, joined. -/
import Derived.Test.YtfhfkijmebhgmaaGreatQ14
import Derived.Test.YtfhfkijmebhgmaaGreatQ15
import Derived.Test.YtfhfkijmebhgmaaGreatQ16
set_option maxHeartbeats 20000000
set_option maxRecDepth 100000
namespace Wh
open Go Go.RowKit Go.Shelf Go.Proofs Tryz
attribute [local go_sem] aT
theorem O7{s:aJ}(h:4<s.ak.length\/8<s.aF.length\/(s.ak.any λo=>!cZ o.aH.length 1 3)=true):Jd s=false:=by
 cases hm:Jd s
 ·rfl
 ·obtain⟨h1,h2,h3⟩:=CX.1 hm;rcases h with h|h|h
  ·omega
  ·omega
  ·rw[FP,h3]at h
   cases h
theorem jhM{s:aJ}(h1:s.ak.length<=4)(h2:s.aF.length<=8)(h3:(s.ak.any λo=>!cZ o.aH.length 1 3)=false):Jd s=true:=by
 refine CX.2 ⟨h1,h2,?_⟩
 rw[FP]at h3
 simpa using h3
theorem VP{s:aJ}(h:Jd s=true):∀o,o<s.ak.length->(aU s.ak o).aH.length<=1000:=λo ho=>by
 have:=dV.1 (uP Gw (CX.1 h).2.2 ho);unfold aU;omega
theorem Nz(w:World)(v vs:Value)(p:dA)(s:aJ)(hp:mW w w.heap.size v p)(hv:lK w w.heap.size vs s):
  Calls prog 23 #[v,vs] w λe w'=>e=.returned (.int .i64 (aQ p s))/\Below w.heap.size w w':=by
 obtain⟨Ab,cb,As,cs,rfl,hP',hBn,hSz,hlb,hls⟩:=sN hp;obtain⟨A0,c0,A1,c1,A2,c2,A3,c3,A4,c4,A5,c5,A6,c6,rfl,hV,hN,hO,hH,hM,hI,hU,hX,hl0,hl1,hl2,hl3,hl4,hl5,JA⟩:=oW hv;go_enter func23,ntmps23
 go_wp2_with fail;obtain⟨W0,hW0,hb0,lg,uZ,hsE,hK⟩:=Eh w p s Ab cb As cs A0 c0 A1 c1 A2 c2 A3 c3 A4 c4 A5 c5 A6 c6;rw[hW0];clear hW0;obtain⟨⟨y0,y1⟩,x0,x1,x2,x3,x4,x5,x6,eP,eU⟩:=hK.O W0 (aj W0.heap.size W0);go_wp2_with fail;clear y0 y1 x0 x1 x2 x3 x4 x5 x6 eP eU;refine(Vk _ _ _ p s.on (hP'.O _ hb0) (hN.O _ hb0)).mono ?_
 rintro e W1 ⟨rfl,hb1⟩;have hB1:=hb0.trans (hb1.mono hb0.size);obtain⟨⟨y0,y1⟩,x0,x1,x2,x3,x4,x5,x6,eP,eU⟩:=hK.O W1 (hb1);by_cases hsh:iO p s.on=0
 ·have hsh':=ah hsh;rw[hsh];clear hsh;by_cases h4:s.ak.length<=4
  ·by_cases h8:s.aF.length<=8
   ·go_wp2_with fail;clear y0 y1 x0 x1 x2 x3 x4 x5 x6 eP eU;refine(RQ _ _ s.ak 77 #[] (λo=>!cZ o.aH.length 1 3) WZ (hO.O W1 hB1) (λj _ W hW u hu=>jfK _ u W hu)).mono ?_
    rintro e W2 ⟨rfl,hb2⟩;have BG:=hb1.trans (hb2.mono hb1.size);have hB2:=hb0.trans (BG.mono hb0.size);obtain⟨⟨y0,y1⟩,x0,x1,x2,x3,x4,x5,x6,eP,eU⟩:=hK.O W2 (BG);cases hany:(s.ak.any λo=>!cZ o.aH.length 1 3)
    ·have hmy:=ah (jhM h4 h8 hany);clear hany;go_wp2_with fail;clear y0 y1 x0 x1 x2 x3 x4 x5 x6 eP eU;refine(jkh _ _ _ p s (hP'.O W2 hB2) (hV.O W2 hB2) (jZ.1 hsh'.O).1 h4 (VP hmy.O)).mono ?_
     rintro e W3 ⟨rfl,hb3⟩;have Oe:=BG.trans (hb3.mono BG.size);have hB3:=hb0.trans (Oe.mono hb0.size);obtain⟨⟨y0,y1⟩,x0,x1,x2,x3,x4,x5,x6,eP,eU⟩:=hK.O W3 (Oe);cases hf:oQ p s
     ·have bK:=ah (Nc hsh'.O hmy.O hf);clear hf;go_wp2_with fail;go_ret
      exact⟨iF (by rw[bK.O]),hB3⟩
     ·have hsn:=ah (o9.mk hsh'.O hmy.O hf);clear hf;go_wp2_with fail;clear y0 y1 x0 x1 x2 x3 x4 x5 x6 eP eU;refine(jke _ _ _ p s (hP'.O W3 hB3) (hV.O W3 hB3) hsn.O).mono ?_
      rintro e W4 ⟨rfl,hb4⟩;have hB4:=hB3.trans (hb4.mono hB3.size);cases hq:Eu p s
      ·have bK:=ah (OC hsn.O hq);clear hq;go_wp2_with fail;go_ret
       exact⟨iF (by rw[bK.O]),hB4⟩
      ·have bK:=ah (KF hsn.O hq);clear hq;go_wp2_with fail;go_ret
       exact⟨iF (by rw[bK.O]),hB4⟩
    ·have bK:=ah (yZ hsh'.O (O7 (.inr (.inr hany))));clear hany;go_wp2_with fail;go_ret
     exact⟨iF (by rw[bK.O]),hB2⟩
   ·have bK:=ah (yZ hsh'.O (O7 (.inr (.inl (by omega)))))
    go_wp2_with fail;go_ret
    exact⟨iF (by rw[bK.O]),hB1⟩
  ·have bK:=ah (yZ hsh'.O (O7 (.inl (by omega))))
   go_wp2_with fail;go_ret
   exact⟨iF (by rw[bK.O]),hB1⟩
 ·have hne:(iO p s.on !=0)=true:=by simpa using hsh
  have bK:=ah (Ll hsh);clear hsh;go_wp2_with fail;go_ret
  exact⟨iF (by rw[bK.O]),hB1⟩
theorem Ag(w:World)(v vs:Value)(p:dA)(s:aJ)(hp:mW w w.heap.size v p)(hv:lK w w.heap.size vs s):
  Calls prog 14 #[v,vs] w λe w'=>e=.returned (.int .i64 (aQ p s))/\Below w.heap.size w w':=by
 obtain⟨Ab,cb,As,cs,rfl,hP',hBn,hSz,hlb,hls⟩:=sN hp;obtain⟨A0,c0,A1,c1,A2,c2,A3,c3,A4,c4,A5,c5,A6,c6,rfl,hV,hN,hO,hH,hM,hI,hU,hX,hl0,hl1,hl2,hl3,hl4,hl5,JA⟩:=oW hv;go_enter func14,ntmps14
 go_wp2_with fail;obtain⟨W0,hW0,hb0,lg,uZ,hsE,hK⟩:=Eh w p s Ab cb As cs A0 c0 A1 c1 A2 c2 A3 c3 A4 c4 A5 c5 A6 c6;rw[hW0];clear hW0;obtain⟨⟨y0,y1⟩,x0,x1,x2,x3,x4,x5,x6,eP,eU⟩:=hK.O W0 (aj W0.heap.size W0);go_wp2_with fail;clear y0 y1 x0 x1 x2 x3 x4 x5 x6 eP eU;refine(jbc _ _ _ p s.on (hP'.O _ hb0) (hN.O _ hb0)).mono ?_
 rintro e W1 ⟨rfl,hb1⟩;have hB1:=hb0.trans (hb1.mono hb0.size);obtain⟨⟨y0,y1⟩,x0,x1,x2,x3,x4,x5,x6,eP,eU⟩:=hK.O W1 (hb1);by_cases hsh:iO p s.on=0
 ·have hsh':=ah hsh;rw[hsh];clear hsh;by_cases h4:s.ak.length<=4
  ·by_cases h8:s.aF.length<=8
   ·go_wp2_with fail;go_loopw[6] (λi wr=>∃k:Nat,k<=s.ak.length/\i=.int .i64 k/\(∀j,j<k->cZ (aU s.ak j).aH.length 1 3=true)/\Below W0.heap.size W0 wr) (λi _=>s.ak.length - (RowKit.intOf i).toNat)
    case atStart=>exact⟨0,aK _,rfl,λj hj=>by omega,hb1⟩
    case round=>
     clear y0 y1 x0 x1 x2 x3 x4 x5 x6 eP eU;clear hb1 hB1;obtain⟨k,hk,rfl,kE,hbw⟩:=hrel;have hall':=ah kE;clear kE;have hB:=hb0.trans (hbw.mono hb0.size);obtain⟨⟨y0,y1⟩,x0,x1,x2,x3,x4,x5,x6,eP,eU⟩:=hK.O wr (hbw);by_cases hlt:k<s.ak.length
     ·obtain⟨A',c',Jh,Gs,d0,d1,hsl⟩:=(hO.O wr hB).aC hlt;cases hwi:cZ (aU s.ak k).aH.length 1 3
      ·have bK:=ah (yZ hsh'.O (O7 (.inr (.inr (by
        rw[lu];exact⟨aU s.ak k,by rw[uy hlt];exact bU hlt,by rw[hwi];rfl⟩)))))
       go_wp2_with (go_at_call 38;refine(oH _ _ _ _).mono ?_;rintro e w' ⟨rfl,rfl⟩)
       go_ret
       exact⟨iF (by rw[bK.O]),hB⟩
      ·have js4:=ah hwi;go_wp2_with (go_at_call 38;refine(oH _ _ _ _).mono ?_;rintro e w' ⟨rfl,rfl⟩)
       go_roundw
       case rel=>
        refine⟨k+1,by omega,by go_num,λj hj=>?_,hbw⟩
        rcases aS.1 hj with h|rfl
        ·exact hall'.O j h
        ·exact js4.O
       case measure=>simp[RowKit.intOf];omega
     ·obtain rfl:k=s.ak.length:=by omega
      have hmy:=ah (CX.2 ⟨h4,h8,D7 Gw hall'.O⟩);clear hall';go_wp2_with fail;clear y0 y1 x0 x1 x2 x3 x4 x5 x6 eP eU;refine(jkm _ _ _ p s (hP'.O wr hB) (hV.O wr hB) (jZ.1 hsh'.O).1 h4 h8 (VP hmy.O)).mono ?_
      rintro e W3 ⟨rfl,hb3⟩;have Oe:=hbw.trans (hb3.mono hbw.size);have hB3:=hb0.trans (Oe.mono hb0.size);obtain⟨⟨y0,y1⟩,x0,x1,x2,x3,x4,x5,x6,eP,eU⟩:=hK.O W3 (Oe);cases hf:oQ p s
      ·have bK:=ah (Nc hsh'.O hmy.O hf);clear hf;go_wp2_with fail;go_ret
       exact⟨iF (by rw[bK.O]),hB3⟩
      ·have hsn:=ah (o9.mk hsh'.O hmy.O hf);clear hf;go_wp2_with fail;clear y0 y1 x0 x1 x2 x3 x4 x5 x6 eP eU;refine(jkk _ _ _ p s (hP'.O W3 hB3) (hV.O W3 hB3) hsn.O).mono ?_
       rintro e W4 ⟨rfl,hb4⟩;have hB4:=hB3.trans (hb4.mono hB3.size);cases hq:Eu p s
       ·have bK:=ah (OC hsn.O hq);clear hq;go_wp2_with fail;go_ret
        exact⟨iF (by rw[bK.O]),hB4⟩
       ·have bK:=ah (KF hsn.O hq);clear hq;go_wp2_with fail;go_ret
        exact⟨iF (by rw[bK.O]),hB4⟩
   ·have bK:=ah (yZ hsh'.O (O7 (.inr (.inl (by omega)))))
    go_wp2_with fail;go_ret
    exact⟨iF (by rw[bK.O]),hB1⟩
  ·have bK:=ah (yZ hsh'.O (O7 (.inl (by omega))))
   go_wp2_with fail;go_ret
   exact⟨iF (by rw[bK.O]),hB1⟩
 ·have hne:(iO p s.on !=0)=true:=by simpa using hsh
  have bK:=ah (Ll hsh);clear hsh;go_wp2_with fail;go_ret
  exact⟨iF (by rw[bK.O]),hB1⟩
end Wh
namespace Wh
open Go Go.RowKit Go.Shelf Go.Proofs Tryz
attribute [local go_sem] aT
def Jp(p:dA)(s:aJ)(b:Int)(k:Nat):Int:=(p.bin b.toNat).room - nH (λg=>(cell s.on b.toNat g+iq s b g)*bI p.aP g) k
theorem WT(p:dA)(s:aJ)(b:Int):Jp p s b p.aP.length=free p s b:=rfl
theorem jck(p:dA)(s:aJ)(b:Int)(k:Nat):Jp p s b (k+1)=Jp p s b k - (cell s.on b.toNat k+iq s b k)*bI p.aP k:=by
 unfold Jp;simp only[nH];omega
theorem O5{a b:Int}(ha:0<=a/\a<=1800)(hb:1<=b/\b<=9):0<=a*b/\a*b<=16200:=by
 refine⟨BM ha.1 (by omega),?_⟩
 calc a*b<=a*9:=Int.mul_le_mul_of_nonneg_left hb.2 ha.1
  _<=16200:=by omega
theorem VD{p:dA}{s:aJ}(hs:o9 p s){b:Int}(hb:0<=b/\b<p.bQ.length){k:Nat}(hk:k<p.aP.length):
  (0<=cell s.on b.toNat k+iq s b k/\cell s.on b.toNat k+iq s b k<=1800)/\(0<=(cell s.on b.toNat k+iq s b k)*bI p.aP k/\(cell s.on b.toNat k+iq s b k)*bI p.aP k<=16200):=by
 have h1:=hs.cell (b:=b.toNat) (g:=k) (by omega) hk
 have h2:=xC hs b k;have h3:0<=cell s.on b.toNat k+iq s b k/\cell s.on b.toNat k+iq s b k<=1800:=by omega
 exact⟨h3,O5 h3 (zH hs.plan hk)⟩
theorem RI{p:dA}{s:aJ}(hs:o9 p s){b:Int}(hb:0<=b/\b<p.bQ.length){k:Nat}(hk:k<=p.aP.length): -48600<=Jp p s b k/\Jp p s b k<=1000:=by
 have h1:=IE hs.plan (b:=b.toNat) (by omega)
 have h2:=Du (f:=λg:Nat=>(cell s.on b.toNat g+iq s b g)*bI p.aP g) (n:=k) (m:=16200) λg hg=>(VD hs hb (by omega)).2
 have hc:=hs.counts;unfold Jp dA.bin;omega
theorem jhk(w:World)(v vo:Value)(p:dA)(on:List (List Int))(b:Int)(hp:mW w w.heap.size v p)(ho:FW jJ w w.heap.size vo on)(hz:iO p on=0)(hb:0<=b/\b<p.bQ.length):
  Calls prog 157 #[v,vo,.int .i64 b] w λe w'=>e=.returned (.int .i64 (LJ p on b.toNat))/\Below w.heap.size w w':=by
 have:=jkj w v vo p on b.toNat hp ho hz (by omega)
 rwa [show((b.toNat:Nat):Int)=b by omega]at this
theorem jlL(w:World)(v:Value)(p:dA)(s:aJ)(b g:Int)(hv:lK w w.heap.size v s)(hs:o9 p s)(hb:0<=b/\b<p.bQ.length)(hg:0<=g/\g<p.aP.length):
  Calls prog 80 #[v,.int .i64 b,.int .i64 g] w λe w'=>e=.returned (.int .i64 (lU s b g))/\Below w.heap.size w w':=by
 have hb1:0<=b:=hb.1;have hb2:b<(s.on.length:Int):=by rw[hs.tY];exact hb.2
 have hg1:0<=g:=hg.1;have hbl:b.toNat<s.on.length:=by omega
 have hgl:g.toNat<(fO s.on b.toNat).length:=by rw[hs.rowLen (by omega)];omega
 have hg2:g<((fO s.on b.toNat).length:Int):=by omega
 have hcr:=hs.cell (b:=b.toNat) (g:=g.toNat) (by omega) (by omega)
 have hbr:=EY hs b g;have zy:=ah hs;clear hs hb hg;obtain⟨A0,c0,A1,c1,A2,c2,A3,c3,A4,c4,A5,c5,A6,c6,rfl,hV,hN,hO,hH,hM,hI,hU,hX,hl0,hl1,hl2,hl3,hl4,hl5,JA⟩:=oW hv;go_enter func80,ntmps80
 go_wp2_with fail;obtain⟨W0,hW0,hb0,lg,uZ,hsE,hK⟩:=Lp w s A0 c0 A1 c1 A2 c2 A3 c3 A4 c4 A5 c5 A6 c6;rw[hW0];clear hW0;obtain⟨Ar,cr,or0,TQ,Yx,vS⟩:=(hN.O W0 hb0).row hbl;obtain⟨or1,lr1,QW⟩:=vS.at_.int hgl;have hcl:bI (fO s.on b.toNat) g.toNat=cell s.on b.toNat g.toNat:=rfl;rw[hcl]at QW
 clear hcl;obtain⟨_,x0,x1,x2,x3,x4,x5,x6,_⟩:=hK.O W0 (aj _ _);have q1:=λo d os=>bY (w:=W0) (b:=w.heap.size) lg o d os
 have q2:=λo d os=>bY (w:=W0) (b:=jd A0) TQ o d os
 have q3:=λo d os=>bY (w:=W0) (b:=jd Ar) lr1 o d os
 have hV2:=ah (λd os=>hV.O _ (hb0.trans ((kW W0 d os).mono hb0.size)))
 have hw1:IntKind.i64.wrap (cell s.on b.toNat g.toNat - bound s b g)=cell s.on b.toNat g.toNat - bound s b g:=aN _ (by omega)
 go_wp2_with fail;refine dG (by kernel_rfl) (by kernel_rfl) ?_
 repeat(go_big_quiet_step ((go_at_call 62;refine gI (Zt _ _ p s _ _ (hV2.O _ _) zy.O))))
 refine wpQuiet_nil ?_
 intro W2 hw';have hb2:=dD hw';clear hw';go_wp2_with fail;go_ret
 exact⟨iF rfl,hb0.trans (hb2.mono hb0.size)⟩
theorem jbe(w:World)(v:Value)(p:dA)(s:aJ)(b g:Int)(hv:lK w w.heap.size v s)(hs:o9 p s)(hb:0<=b/\b<p.bQ.length)(hg:0<=g/\g<p.aP.length):
  Calls prog 109 #[v,.int .i64 b,.int .i64 g] w λe w'=>e=.returned (.int .i64 (lU s b g))/\Below w.heap.size w w':=by
 have hb1:0<=b:=hb.1;have hb2:b<(s.on.length:Int):=by rw[hs.tY];exact hb.2
 have hg1:0<=g:=hg.1;have hbl:b.toNat<s.on.length:=by omega
 have hgl:g.toNat<(fO s.on b.toNat).length:=by rw[hs.rowLen (by omega)];omega
 have hg2:g<((fO s.on b.toNat).length:Int):=by omega
 have hcr:=hs.cell (b:=b.toNat) (g:=g.toNat) (by omega) (by omega)
 have hbr:=EY hs b g;have zy:=ah hs;clear hs hb hg;obtain⟨A0,c0,A1,c1,A2,c2,A3,c3,A4,c4,A5,c5,A6,c6,rfl,hV,hN,hO,hH,hM,hI,hU,hX,hl0,hl1,hl2,hl3,hl4,hl5,JA⟩:=oW hv;go_enter func109,ntmps109
 go_wp2_with fail;obtain⟨W0,hW0,hb0,lg,uZ,hsE,hK⟩:=Lp w s A0 c0 A1 c1 A2 c2 A3 c3 A4 c4 A5 c5 A6 c6;rw[hW0];clear hW0;obtain⟨Ar,cr,or0,TQ,Yx,vS⟩:=(hN.O W0 hb0).row hbl;obtain⟨or1,lr1,QW⟩:=vS.at_.int hgl;have hcl:bI (fO s.on b.toNat) g.toNat=cell s.on b.toNat g.toNat:=rfl;rw[hcl]at QW
 clear hcl;obtain⟨_,x0,x1,x2,x3,x4,x5,x6,_⟩:=hK.O W0 (aj _ _);have q1:=λo d os=>bY (w:=W0) (b:=w.heap.size) lg o d os
 have q2:=λo d os=>bY (w:=W0) (b:=jd A0) TQ o d os
 have q3:=λo d os=>bY (w:=W0) (b:=jd Ar) lr1 o d os
 have hV2:=ah (λd os=>hV.O _ (hb0.trans ((kW W0 d os).mono hb0.size)))
 have hw1:IntKind.i64.wrap (cell s.on b.toNat g.toNat - bound s b g)=cell s.on b.toNat g.toNat - bound s b g:=aN _ (by omega)
 go_wp2_with fail;refine dG (by kernel_rfl) (by kernel_rfl) ?_
 repeat(go_big_quiet_step ((go_at_call 70;refine gI (ZA _ _ p s _ _ (hV2.O _ _) zy.O))))
 refine wpQuiet_nil ?_
 intro W2 hw';have hb2:=dD hw';clear hw';go_wp2_with fail;go_ret
 exact⟨iF rfl,hb0.trans (hb2.mono hb0.size)⟩
theorem jhc(w:World)(v vs:Value)(p:dA)(s:aJ)(b:Int)(hp:mW w w.heap.size v p)(hv:lK w w.heap.size vs s)(hs:o9 p s)(hb:0<=b/\b<p.bQ.length):
  Calls prog 93 #[v,vs,.int .i64 b] w λe w'=>e=.returned (.int .i64 (free p s b))/\Below w.heap.size w w':=by
 have hbb:=ah hb;have hb1:0<=b:=hb.1;have hb2:b<(s.on.length:Int):=by rw[hs.tY];exact hb.2
 have hb3:b<(p.bQ.length:Int):=hb.2;have hbl:b.toNat<s.on.length:=by omega
 have jgf:b.toNat<p.bQ.length:=by omega
 have hcnt:=hs.counts;have zy:=ah hs;clear hs hb;obtain⟨Ab,cb,As,cs,rfl,hP',hBn,hSz,hlb,hls⟩:=sN hp;obtain⟨A0,c0,A1,c1,A2,c2,A3,c3,A4,c4,A5,c5,A6,c6,rfl,hV,hN,hO,hH,hM,hI,hU,hX,hl0,hl1,hl2,hl3,hl4,hl5,JA⟩:=oW hv;obtain⟨ok0,lk0,k0,k1,k2,k3⟩:=(hBn.O w (aj _ _)).at_.bin jgf;go_enter func93,ntmps93
 go_wp2_with fail;obtain⟨W0,hW0,hb0,lg,uZ,hsE,hK⟩:=Eh w p s Ab cb As cs A0 c0 A1 c1 A2 c2 A3 c3 A4 c4 A5 c5 A6 c6;rw[hW0];clear hW0;obtain⟨⟨y0,y1⟩,x0,x1,x2,x3,x4,x5,x6,eP,eU⟩:=hK.O W0 (aj W0.heap.size W0);clear k0 k1 k2 k3;go_loopw[7,19,8,9] (λn i _ _ wr=>∃k:Nat,k<=p.aP.length/\i=.int .i64 k/\n=.int .i64 (Jp p s b k)/\Below W0.heap.size W0 wr) (λ_ i _ _ _=>p.aP.length - (RowKit.intOf i).toNat)
 case atStart=>exact⟨0,aK _,rfl,by unfold Jp dA.bin;simp[nH],aj _ _⟩
 case round=>
  clear y0 y1 x0 x1 x2 x3 x4 x5 x6 eP eU;obtain⟨k,hk,rfl,rfl,hbw⟩:=hrel;have hB:=hb0.trans (hbw.mono hb0.size);obtain⟨t1,t2⟩:=RI zy.O hbb.O hk;obtain⟨⟨y0,y1⟩,x0,x1,x2,x3,x4,x5,x6,eP,eU⟩:=hK.O wr (hbw);by_cases hlt:k<p.aP.length
  ·have hgl:k<(fO s.on b.toNat).length:=by rw[zy.O.rowLen jgf];exact hlt
   obtain⟨Ar,cr,or0,TQ,Yx,vS⟩:=(hN.O wr hB).row hbl;obtain⟨or1,lr1,QW⟩:=vS.at_.int hgl;obtain⟨os0,ls0,rs0⟩:=(hSz.O wr hB).at_.int hlt;have hcl:bI (fO s.on b.toNat) k=cell s.on b.toNat k:=rfl;rw[hcl]at QW
   clear hcl;obtain⟨⟨m1,m2⟩,m3,m4⟩:=VD zy.O hbb.O hlt;have q1:=λo d os=>bY (w:=wr) (b:=w.heap.size+1) eP o d os
   have q2:=λo d os=>bY (w:=wr) (b:=jd A0) TQ o d os
   have q3:=λo d os=>bY (w:=wr) (b:=jd Ar) lr1 o d os
   have hV2:=ah (λd os=>hV.O _ (hB.trans ((kW wr d os).mono hB.size)))
   have hsu:=ah (jck p s b k);have hw1:IntKind.i64.wrap (cell s.on b.toNat k+iq s b k)=cell s.on b.toNat k+iq s b k:=aN _ (by omega)
   have hw2:IntKind.i64.wrap ((cell s.on b.toNat k+iq s b k)*bI p.aP k)=(cell s.on b.toNat k+iq s b k)*bI p.aP k:=aN _ (by omega)
   have hw3:IntKind.i64.wrap (Jp p s b k - (cell s.on b.toNat k+iq s b k)*bI p.aP k)=Jp p s b k - (cell s.on b.toNat k+iq s b k)*bI p.aP k:=aN _ (by omega)
   go_wp2_with fail;refine dG (by kernel_rfl) (by kernel_rfl) ?_
   repeat(go_big_quiet_step ((go_at_call 94;refine gI (UM _ _ p s _ _ (hV2.O _ _) zy.O))))
   refine wpQuiet_nil ?_
   intro W2 hw';have hb2:=dD hw';clear hw';clear q1 q2 q3 hw1 hw2 hw3;go_wp2_with fail;go_roundw
   case rel=>exact⟨k+1,by omega,by go_num,by rw[hsu.O],hbw.trans (hb2.mono hbw.size)⟩
   case measure=>simp[RowKit.intOf];omega
  ·obtain rfl:k=p.aP.length:=by omega
   go_wp2_with fail;go_ret
   exact⟨iF (WT _ _ _),hB⟩
def En(p:dA)(s:aJ)(b:Int)(k:Nat):Int:=(p.bin b.toNat).room - LJ p s.on b.toNat - nH (λg=>iq s b g*bI p.aP g) k
theorem jam(p:dA)(s:aJ)(b:Int)(k:Nat):En p s b (k+1)=En p s b k - iq s b k*bI p.aP k:=by
 unfold En;simp only[nH];omega
theorem jfH(f g:Nat->Int)(n:Nat):nH (λk=>f k+g k) n=nH f n+nH g n:=by
 induction n with
 |zero=>rfl
 |succ n ih=>simp only[nH];rw[ih];omega
theorem jcl(p:dA)(s:aJ)(b:Int):En p s b p.aP.length=free p s b:=by
 unfold En free LJ;have:nH (λg=>(cell s.on b.toNat g+iq s b g)*bI p.aP g) p.aP.length=nH (λg=>cell s.on b.toNat g*bI p.aP g) p.aP.length+nH (λg=>iq s b g*bI p.aP g) p.aP.length:=by
  rw[<- jfH];exact zo λk _=>xW _ _ _
 rw[this];omega
theorem Xg{p:dA}{s:aJ}(hs:o9 p s)(b:Int){k:Nat}(hk:k<p.aP.length):0<=iq s b k*bI p.aP k/\iq s b k*bI p.aP k<=16200:=by
 have h2:=xC hs b k;exact O5 (by omega) (zH hs.plan hk)
theorem Yl{p:dA}{s:aJ}(hs:o9 p s){b:Nat}(hb:b<p.bQ.length):0<=LJ p s.on b/\LJ p s.on b<=5400:=by
 have hc:=hs.counts;have:=U9 hs.shelf (b:=b) (by rw[hs.tY];exact hb) (au p.aP.length)
 unfold LJ;omega
theorem X7{p:dA}{s:aJ}(hs:o9 p s){b:Int}(hb:0<=b/\b<p.bQ.length){k:Nat}(hk:k<=p.aP.length): -60000<=En p s b k/\En p s b k<=1000:=by
 have h1:=IE hs.plan (b:=b.toNat) (by omega)
 have h2:=Du (f:=λg:Nat=>iq s b g*bI p.aP g) (n:=k) (m:=16200) λg hg=>Xg hs b (by omega)
 have h3:=Yl hs (b:=b.toNat) (by omega)
 have hc:=hs.counts;unfold En dA.bin;omega
theorem Zz(w:World)(v vs:Value)(p:dA)(s:aJ)(b:Int)(hp:mW w w.heap.size v p)(hv:lK w w.heap.size vs s)(hs:o9 p s)(hb:0<=b/\b<p.bQ.length):
  Calls prog 106 #[v,vs,.int .i64 b] w λe w'=>e=.returned (.int .i64 (free p s b))/\Below w.heap.size w w':=by
 have hbb:=ah hb;have hb1:0<=b:=hb.1;have hb3:b<(p.bQ.length:Int):=hb.2;have jgf:b.toNat<p.bQ.length:=by omega
 have hcnt:=hs.counts;obtain⟨⟨rm1,rm2⟩,_⟩:=IE hs.plan jgf;obtain⟨us1,us2⟩:=Yl hs jgf;have zy:=ah hs;clear hs hb;obtain⟨Ab,cb,As,cs,rfl,hP',hBn,hSz,hlb,hls⟩:=sN hp;obtain⟨A0,c0,A1,c1,A2,c2,A3,c3,A4,c4,A5,c5,A6,c6,rfl,hV,hN,hO,hH,hM,hI,hU,hX,hl0,hl1,hl2,hl3,hl4,hl5,JA⟩:=oW hv;go_enter func106,ntmps106
 go_wp2_with fail;obtain⟨W0,hW0,hb0,lg,uZ,hsE,hK⟩:=Eh w p s Ab cb As cs A0 c0 A1 c1 A2 c2 A3 c3 A4 c4 A5 c5 A6 c6;rw[hW0];clear hW0;obtain⟨⟨y0,y1⟩,x0,x1,x2,x3,x4,x5,x6,eP,eU⟩:=hK.O W0 (aj W0.heap.size W0);obtain⟨ok0,lk0,k0,k1,k2,k3⟩:=(hBn.O W0 hb0).at_.bin jgf;clear k0 k2 k3;have q1:=λo d os=>bY (w:=W0) (b:=w.heap.size) eU o d os
 have q2:=λo d os=>bY (w:=W0) (b:=w.heap.size+1) eP o d os
 have q3:=λo d os=>bY (w:=W0) (b:=jd Ab) lk0 o d os
 have hP2:=ah (λd os=>hP'.O _ (hb0.trans ((kW W0 d os).mono hb0.size)))
 have hN2:=ah (λd os=>hN.O _ (hb0.trans ((kW W0 d os).mono hb0.size)))
 have hw1:IntKind.i64.wrap ((l9 p.bQ b.toNat).room - LJ p s.on b.toNat)=(l9 p.bQ b.toNat).room - LJ p s.on b.toNat:=aN _ (by omega)
 go_wp2_with fail;refine dG (by kernel_rfl) (by kernel_rfl) ?_
 repeat(go_big_quiet_step ((go_at_call 157;refine gI (jhk _ _ _ p s.on b (hP2.O _ _) (hN2.O _ _) zy.O.shelf hbb.O))))
 refine wpQuiet_nil ?_
 intro W9 hw';have Hq:=dD hw';clear hw';clear q1 q2 q3 hw1;clear y0 y1 x0 x1 x2 x3 x4 x5 x6 eP eU;obtain⟨⟨y0,y1⟩,x0,x1,x2,x3,x4,x5,x6,eP,eU⟩:=hK.O W9 (Hq);go_wp2_with fail;go_loopw[7,8] (λn i wr=>∃k:Nat,k<=p.aP.length/\i=.int .i64 k/\n=.int .i64 (En p s b k)/\Below W0.heap.size W0 wr) (λ_ i _=>p.aP.length - (RowKit.intOf i).toNat)
 case atStart=>exact⟨0,aK _,rfl,by unfold En dA.bin;simp[nH],Hq⟩
 case round=>
  clear y0 y1 x0 x1 x2 x3 x4 x5 x6 eP eU;clear k1;obtain⟨k,hk,rfl,rfl,hbw⟩:=hrel;have hB:=hb0.trans (hbw.mono hb0.size);obtain⟨t1,t2⟩:=X7 zy.O hbb.O hk;obtain⟨⟨y0,y1⟩,x0,x1,x2,x3,x4,x5,x6,eP,eU⟩:=hK.O wr (hbw);by_cases hlt:k<p.aP.length
  ·obtain⟨os0,ls0,rs0⟩:=(hSz.O wr hB).at_.int hlt;obtain⟨m3,m4⟩:=Xg zy.O b hlt;have q0:=λo d os=>bY (w:=wr) (b:=w.heap.size) eU o d os
   have q1:=λo d os=>bY (w:=wr) (b:=w.heap.size+1) eP o d os
   have q2:=λo d os=>bY (w:=wr) (b:=jd As) ls0 o d os
   have hV2:=ah (λd os=>hV.O _ (hB.trans ((kW wr d os).mono hB.size)))
   have hsu:=ah (jam p s b k);have hw2:IntKind.i64.wrap (iq s b k*bI p.aP k)=iq s b k*bI p.aP k:=aN _ (by omega)
   have hw3:IntKind.i64.wrap (En p s b k - iq s b k*bI p.aP k)=En p s b k - iq s b k*bI p.aP k:=aN _ (by omega)
   go_wp2_with fail;refine dG (by kernel_rfl) (by kernel_rfl) ?_
   repeat(go_big_quiet_step ((go_at_call 107;refine gI (LU _ _ p s _ _ (hV2.O _ _) zy.O))))
   refine wpQuiet_nil ?_
   intro W2 hw';have hb2:=dD hw';clear hw';clear q0 q1 q2 hw2 hw3;go_wp2_with fail;go_roundw
   case rel=>exact⟨k+1,by omega,by go_num,by rw[hsu.O],hbw.trans (hb2.mono hbw.size)⟩
   case measure=>simp[RowKit.intOf];omega
  ·obtain rfl:k=p.aP.length:=by omega
   go_wp2_with fail;go_ret
   exact⟨iF (jcl _ _ _),hB⟩
end Wh
