/- Texts of the claim, joined. -/
import Derived.Deep.OwnRows
import Derived.Test.YtfhfkijmebhgmaaGreatK12
set_option maxHeartbeats 20000000
set_option maxRecDepth 100000
namespace Wh
open Go Go.RowKit Go.Shelf Go.Proofs Tryz
attribute [local go_sem] aT
def Jp(p:dA)(s:aJ)(b:Int)(k:Nat):Int:=(p.bin b.toNat).room - nH (λg=>(cell s.on b.toNat g+iq s b g)*bI p.aP g) k
theorem WT(p:dA)(s:aJ)(b:Int):Jp p s b p.aP.length=free p s b:=rfl
theorem jck(p:dA)(s:aJ)(b:Int)(k:Nat):Jp p s b (k+1)=Jp p s b k - (cell s.on b.toNat k+iq s b k)*bI p.aP k:=by
 unfold Jp;simp only[nH];omega
theorem O5{a b:Int}(ha:0<=a/\a<=1800)(hb:1<=b/\b<=9):0<=a*b/\a*b<=16200:=by
 refine⟨BM ha.1 (by omega),?_⟩
 calc a*b<=a*9:=Int.mul_le_mul_of_nonneg_left hb.2 ha.1
  _<=16200:=by omega
theorem VD{p:dA}{s:aJ}(hs:o9 p s){b:Int}(hb:0<=b/\b<p.bQ.length){k:Nat}(hk:k<p.aP.length):
  (0<=cell s.on b.toNat k+iq s b k/\cell s.on b.toNat k+iq s b k<=1800)/\(0<=(cell s.on b.toNat k+iq s b k)*bI p.aP k/\(cell s.on b.toNat k+iq s b k)*bI p.aP k<=16200):=by
 have h1:=hs.cell (b:=b.toNat) (g:=k) (by omega) hk
 have h2:=xC hs b k;have h3:0<=cell s.on b.toNat k+iq s b k/\cell s.on b.toNat k+iq s b k<=1800:=by omega
 exact⟨h3,O5 h3 (zH hs.plan hk)⟩
theorem RI{p:dA}{s:aJ}(hs:o9 p s){b:Int}(hb:0<=b/\b<p.bQ.length){k:Nat}(hk:k<=p.aP.length): -48600<=Jp p s b k/\Jp p s b k<=1000:=by
 have h1:=IE hs.plan (b:=b.toNat) (by omega)
 have h2:=Du (f:=λg:Nat=>(cell s.on b.toNat g+iq s b g)*bI p.aP g) (n:=k) (m:=16200) λg hg=>(VD hs hb (by omega)).2
 have hc:=hs.counts;unfold Jp dA.bin;omega
theorem jhk(w:World)(v vo:Value)(p:dA)(on:List (List Int))(b:Int)(hp:mW w w.heap.size v p)(ho:FW jJ w w.heap.size vo on)(hz:iO p on=0)(hb:0<=b/\b<p.bQ.length):
  Calls prog 157 #[v,vo,.int .i64 b] w λe w'=>e=.returned (.int .i64 (LJ p on b.toNat))/\Below w.heap.size w w':=by
 have:=jkj w v vo p on b.toNat hp ho hz (by omega)
 rwa [show((b.toNat:Nat):Int)=b by omega]at this
theorem jlL(w:World)(v:Value)(p:dA)(s:aJ)(b g:Int)(hv:lK w w.heap.size v s)(hs:o9 p s)(hb:0<=b/\b<p.bQ.length)(hg:0<=g/\g<p.aP.length):
  Calls prog 80 #[v,.int .i64 b,.int .i64 g] w λe w'=>e=.returned (.int .i64 (lU s b g))/\Below w.heap.size w w':=by
 have hb1:0<=b:=hb.1;have hb2:b<(s.on.length:Int):=by rw[hs.tY];exact hb.2
 have hg1:0<=g:=hg.1;have hbl:b.toNat<s.on.length:=by omega
 have hgl:g.toNat<(fO s.on b.toNat).length:=by rw[hs.rowLen (by omega)];omega
 have hg2:g<((fO s.on b.toNat).length:Int):=by omega
 have hcr:=hs.cell (b:=b.toNat) (g:=g.toNat) (by omega) (by omega)
 have hbr:=EY hs b g;have zy:=ah hs;clear hs hb hg;obtain⟨A0,c0,A1,c1,A2,c2,A3,c3,A4,c4,A5,c5,A6,c6,rfl,hV,hN,hO,hH,hM,hI,hU,hX,hl0,hl1,hl2,hl3,hl4,hl5,JA⟩:=oW hv;go_enter func80,ntmps80
 go_wp2_with fail;obtain⟨W0,hW0,hb0,lg,uZ,hsE,hK⟩:=Lp w s A0 c0 A1 c1 A2 c2 A3 c3 A4 c4 A5 c5 A6 c6;rw[hW0];clear hW0;obtain⟨Ar,cr,or0,TQ,Yx,vS⟩:=(hN.O W0 hb0).row hbl;obtain⟨or1,lr1,QW⟩:=vS.at_.int hgl;have hcl:bI (fO s.on b.toNat) g.toNat=cell s.on b.toNat g.toNat:=rfl;rw[hcl]at QW
 clear hcl;obtain⟨_,x0,x1,x2,x3,x4,x5,x6,_⟩:=hK.O W0 (aj _ _);have q1:=λo d os=>bY (w:=W0) (b:=w.heap.size) lg o d os
 have q2:=λo d os=>bY (w:=W0) (b:=jd A0) TQ o d os
 have q3:=λo d os=>bY (w:=W0) (b:=jd Ar) lr1 o d os
 have hV2:=ah (λd os=>hV.O _ (hb0.trans ((kW W0 d os).mono hb0.size)))
 have hw1:IntKind.i64.wrap (cell s.on b.toNat g.toNat - bound s b g)=cell s.on b.toNat g.toNat - bound s b g:=aN _ (by omega)
 go_wp2_with fail;refine dG (by kernel_rfl) (by kernel_rfl) ?_
 repeat(go_big_quiet_step ((go_at_call 62;refine gI (Zt _ _ p s _ _ (hV2.O _ _) zy.O))))
 refine wpQuiet_nil ?_
 intro W2 hw';have hb2:=dD hw';clear hw';go_wp2_with fail;go_ret
 exact⟨iF rfl,hb0.trans (hb2.mono hb0.size)⟩
theorem jbe(w:World)(v:Value)(p:dA)(s:aJ)(b g:Int)(hv:lK w w.heap.size v s)(hs:o9 p s)(hb:0<=b/\b<p.bQ.length)(hg:0<=g/\g<p.aP.length):
  Calls prog 109 #[v,.int .i64 b,.int .i64 g] w λe w'=>e=.returned (.int .i64 (lU s b g))/\Below w.heap.size w w':=by
 have hb1:0<=b:=hb.1;have hb2:b<(s.on.length:Int):=by rw[hs.tY];exact hb.2
 have hg1:0<=g:=hg.1;have hbl:b.toNat<s.on.length:=by omega
 have hgl:g.toNat<(fO s.on b.toNat).length:=by rw[hs.rowLen (by omega)];omega
 have hg2:g<((fO s.on b.toNat).length:Int):=by omega
 have hcr:=hs.cell (b:=b.toNat) (g:=g.toNat) (by omega) (by omega)
 have hbr:=EY hs b g;have zy:=ah hs;clear hs hb hg;obtain⟨A0,c0,A1,c1,A2,c2,A3,c3,A4,c4,A5,c5,A6,c6,rfl,hV,hN,hO,hH,hM,hI,hU,hX,hl0,hl1,hl2,hl3,hl4,hl5,JA⟩:=oW hv;go_enter func109,ntmps109
 go_wp2_with fail;obtain⟨W0,hW0,hb0,lg,uZ,hsE,hK⟩:=Lp w s A0 c0 A1 c1 A2 c2 A3 c3 A4 c4 A5 c5 A6 c6;rw[hW0];clear hW0;obtain⟨Ar,cr,or0,TQ,Yx,vS⟩:=(hN.O W0 hb0).row hbl;obtain⟨or1,lr1,QW⟩:=vS.at_.int hgl;have hcl:bI (fO s.on b.toNat) g.toNat=cell s.on b.toNat g.toNat:=rfl;rw[hcl]at QW
 clear hcl;obtain⟨_,x0,x1,x2,x3,x4,x5,x6,_⟩:=hK.O W0 (aj _ _);have q1:=λo d os=>bY (w:=W0) (b:=w.heap.size) lg o d os
 have q2:=λo d os=>bY (w:=W0) (b:=jd A0) TQ o d os
 have q3:=λo d os=>bY (w:=W0) (b:=jd Ar) lr1 o d os
 have hV2:=ah (λd os=>hV.O _ (hb0.trans ((kW W0 d os).mono hb0.size)))
 have hw1:IntKind.i64.wrap (cell s.on b.toNat g.toNat - bound s b g)=cell s.on b.toNat g.toNat - bound s b g:=aN _ (by omega)
 go_wp2_with fail;refine dG (by kernel_rfl) (by kernel_rfl) ?_
 repeat(go_big_quiet_step ((go_at_call 70;refine gI (ZA _ _ p s _ _ (hV2.O _ _) zy.O))))
 refine wpQuiet_nil ?_
 intro W2 hw';have hb2:=dD hw';clear hw';go_wp2_with fail;go_ret
 exact⟨iF rfl,hb0.trans (hb2.mono hb0.size)⟩
theorem jhc(w:World)(v vs:Value)(p:dA)(s:aJ)(b:Int)(hp:mW w w.heap.size v p)(hv:lK w w.heap.size vs s)(hs:o9 p s)(hb:0<=b/\b<p.bQ.length):
  Calls prog 93 #[v,vs,.int .i64 b] w λe w'=>e=.returned (.int .i64 (free p s b))/\Below w.heap.size w w':=by
 have hbb:=ah hb;have hb1:0<=b:=hb.1;have hb2:b<(s.on.length:Int):=by rw[hs.tY];exact hb.2
 have hb3:b<(p.bQ.length:Int):=hb.2;have hbl:b.toNat<s.on.length:=by omega
 have jgf:b.toNat<p.bQ.length:=by omega
 have hcnt:=hs.counts;have zy:=ah hs;clear hs hb;obtain⟨Ab,cb,As,cs,rfl,hP',hBn,hSz,hlb,hls⟩:=sN hp;obtain⟨A0,c0,A1,c1,A2,c2,A3,c3,A4,c4,A5,c5,A6,c6,rfl,hV,hN,hO,hH,hM,hI,hU,hX,hl0,hl1,hl2,hl3,hl4,hl5,JA⟩:=oW hv;obtain⟨ok0,lk0,k0,k1,k2,k3⟩:=(hBn.O w (aj _ _)).at_.bin jgf;go_enter func93,ntmps93
 go_wp2_with fail;obtain⟨W0,hW0,hb0,lg,uZ,hsE,hK⟩:=Eh w p s Ab cb As cs A0 c0 A1 c1 A2 c2 A3 c3 A4 c4 A5 c5 A6 c6;rw[hW0];clear hW0;obtain⟨⟨y0,y1⟩,x0,x1,x2,x3,x4,x5,x6,eP,eU⟩:=hK.O W0 (aj W0.heap.size W0);clear k0 k1 k2 k3;go_loopw[7,19,8,9] (λn i _ _ wr=>∃k:Nat,k<=p.aP.length/\i=.int .i64 k/\n=.int .i64 (Jp p s b k)/\Below W0.heap.size W0 wr) (λ_ i _ _ _=>p.aP.length - (RowKit.intOf i).toNat)
 case atStart=>exact⟨0,aK _,rfl,by unfold Jp dA.bin;simp[nH],aj _ _⟩
 case round=>
  clear y0 y1 x0 x1 x2 x3 x4 x5 x6 eP eU;obtain⟨k,hk,rfl,rfl,hbw⟩:=hrel;have hB:=hb0.trans (hbw.mono hb0.size);obtain⟨t1,t2⟩:=RI zy.O hbb.O hk;obtain⟨⟨y0,y1⟩,x0,x1,x2,x3,x4,x5,x6,eP,eU⟩:=hK.O wr (hbw);by_cases hlt:k<p.aP.length
  ·have hgl:k<(fO s.on b.toNat).length:=by rw[zy.O.rowLen jgf];exact hlt
   obtain⟨Ar,cr,or0,TQ,Yx,vS⟩:=(hN.O wr hB).row hbl;obtain⟨or1,lr1,QW⟩:=vS.at_.int hgl;obtain⟨os0,ls0,rs0⟩:=(hSz.O wr hB).at_.int hlt;have hcl:bI (fO s.on b.toNat) k=cell s.on b.toNat k:=rfl;rw[hcl]at QW
   clear hcl;obtain⟨⟨m1,m2⟩,m3,m4⟩:=VD zy.O hbb.O hlt;have q1:=λo d os=>bY (w:=wr) (b:=w.heap.size+1) eP o d os
   have q2:=λo d os=>bY (w:=wr) (b:=jd A0) TQ o d os
   have q3:=λo d os=>bY (w:=wr) (b:=jd Ar) lr1 o d os
   have hV2:=ah (λd os=>hV.O _ (hB.trans ((kW wr d os).mono hB.size)))
   have hsu:=ah (jck p s b k);have hw1:IntKind.i64.wrap (cell s.on b.toNat k+iq s b k)=cell s.on b.toNat k+iq s b k:=aN _ (by omega)
   have hw2:IntKind.i64.wrap ((cell s.on b.toNat k+iq s b k)*bI p.aP k)=(cell s.on b.toNat k+iq s b k)*bI p.aP k:=aN _ (by omega)
   have hw3:IntKind.i64.wrap (Jp p s b k - (cell s.on b.toNat k+iq s b k)*bI p.aP k)=Jp p s b k - (cell s.on b.toNat k+iq s b k)*bI p.aP k:=aN _ (by omega)
   go_wp2_with fail;refine dG (by kernel_rfl) (by kernel_rfl) ?_
   repeat(go_big_quiet_step ((go_at_call 94;refine gI (UM _ _ p s _ _ (hV2.O _ _) zy.O))))
   refine wpQuiet_nil ?_
   intro W2 hw';have hb2:=dD hw';clear hw';clear q1 q2 q3 hw1 hw2 hw3;go_wp2_with fail;go_roundw
   case rel=>exact⟨k+1,by omega,by go_num,by rw[hsu.O],hbw.trans (hb2.mono hbw.size)⟩
   case measure=>simp[RowKit.intOf];omega
  ·obtain rfl:k=p.aP.length:=by omega
   go_wp2_with fail;go_ret
   exact⟨iF (WT _ _ _),hB⟩
def En(p:dA)(s:aJ)(b:Int)(k:Nat):Int:=(p.bin b.toNat).room - LJ p s.on b.toNat - nH (λg=>iq s b g*bI p.aP g) k
theorem jam(p:dA)(s:aJ)(b:Int)(k:Nat):En p s b (k+1)=En p s b k - iq s b k*bI p.aP k:=by
 unfold En;simp only[nH];omega
theorem jfH(f g:Nat->Int)(n:Nat):nH (λk=>f k+g k) n=nH f n+nH g n:=by
 induction n with
 |zero=>rfl
 |succ n ih=>simp only[nH];rw[ih];omega
theorem jcl(p:dA)(s:aJ)(b:Int):En p s b p.aP.length=free p s b:=by
 unfold En free LJ;have:nH (λg=>(cell s.on b.toNat g+iq s b g)*bI p.aP g) p.aP.length=nH (λg=>cell s.on b.toNat g*bI p.aP g) p.aP.length+nH (λg=>iq s b g*bI p.aP g) p.aP.length:=by
  rw[<- jfH];exact zo λk _=>xW _ _ _
 rw[this];omega
theorem Xg{p:dA}{s:aJ}(hs:o9 p s)(b:Int){k:Nat}(hk:k<p.aP.length):0<=iq s b k*bI p.aP k/\iq s b k*bI p.aP k<=16200:=by
 have h2:=xC hs b k;exact O5 (by omega) (zH hs.plan hk)
theorem Yl{p:dA}{s:aJ}(hs:o9 p s){b:Nat}(hb:b<p.bQ.length):0<=LJ p s.on b/\LJ p s.on b<=5400:=by
 have hc:=hs.counts;have:=U9 hs.shelf (b:=b) (by rw[hs.tY];exact hb) (au p.aP.length)
 unfold LJ;omega
theorem X7{p:dA}{s:aJ}(hs:o9 p s){b:Int}(hb:0<=b/\b<p.bQ.length){k:Nat}(hk:k<=p.aP.length): -60000<=En p s b k/\En p s b k<=1000:=by
 have h1:=IE hs.plan (b:=b.toNat) (by omega)
 have h2:=Du (f:=λg:Nat=>iq s b g*bI p.aP g) (n:=k) (m:=16200) λg hg=>Xg hs b (by omega)
 have h3:=Yl hs (b:=b.toNat) (by omega)
 have hc:=hs.counts;unfold En dA.bin;omega
theorem Zz(w:World)(v vs:Value)(p:dA)(s:aJ)(b:Int)(hp:mW w w.heap.size v p)(hv:lK w w.heap.size vs s)(hs:o9 p s)(hb:0<=b/\b<p.bQ.length):
  Calls prog 106 #[v,vs,.int .i64 b] w λe w'=>e=.returned (.int .i64 (free p s b))/\Below w.heap.size w w':=by
 have hbb:=ah hb;have hb1:0<=b:=hb.1;have hb3:b<(p.bQ.length:Int):=hb.2;have jgf:b.toNat<p.bQ.length:=by omega
 have hcnt:=hs.counts;obtain⟨⟨rm1,rm2⟩,_⟩:=IE hs.plan jgf;obtain⟨us1,us2⟩:=Yl hs jgf;have zy:=ah hs;clear hs hb;obtain⟨Ab,cb,As,cs,rfl,hP',hBn,hSz,hlb,hls⟩:=sN hp;obtain⟨A0,c0,A1,c1,A2,c2,A3,c3,A4,c4,A5,c5,A6,c6,rfl,hV,hN,hO,hH,hM,hI,hU,hX,hl0,hl1,hl2,hl3,hl4,hl5,JA⟩:=oW hv;go_enter func106,ntmps106
 go_wp2_with fail;obtain⟨W0,hW0,hb0,lg,uZ,hsE,hK⟩:=Eh w p s Ab cb As cs A0 c0 A1 c1 A2 c2 A3 c3 A4 c4 A5 c5 A6 c6;rw[hW0];clear hW0;obtain⟨⟨y0,y1⟩,x0,x1,x2,x3,x4,x5,x6,eP,eU⟩:=hK.O W0 (aj W0.heap.size W0);obtain⟨ok0,lk0,k0,k1,k2,k3⟩:=(hBn.O W0 hb0).at_.bin jgf;clear k0 k2 k3;have q1:=λo d os=>bY (w:=W0) (b:=w.heap.size) eU o d os
 have q2:=λo d os=>bY (w:=W0) (b:=w.heap.size+1) eP o d os
 have q3:=λo d os=>bY (w:=W0) (b:=jd Ab) lk0 o d os
 have hP2:=ah (λd os=>hP'.O _ (hb0.trans ((kW W0 d os).mono hb0.size)))
 have hN2:=ah (λd os=>hN.O _ (hb0.trans ((kW W0 d os).mono hb0.size)))
 have hw1:IntKind.i64.wrap ((l9 p.bQ b.toNat).room - LJ p s.on b.toNat)=(l9 p.bQ b.toNat).room - LJ p s.on b.toNat:=aN _ (by omega)
 go_wp2_with fail;refine dG (by kernel_rfl) (by kernel_rfl) ?_
 repeat(go_big_quiet_step ((go_at_call 157;refine gI (jhk _ _ _ p s.on b (hP2.O _ _) (hN2.O _ _) zy.O.shelf hbb.O))))
 refine wpQuiet_nil ?_
 intro W9 hw';have Hq:=dD hw';clear hw';clear q1 q2 q3 hw1;clear y0 y1 x0 x1 x2 x3 x4 x5 x6 eP eU;obtain⟨⟨y0,y1⟩,x0,x1,x2,x3,x4,x5,x6,eP,eU⟩:=hK.O W9 (Hq);go_wp2_with fail;go_loopw[7,8] (λn i wr=>∃k:Nat,k<=p.aP.length/\i=.int .i64 k/\n=.int .i64 (En p s b k)/\Below W0.heap.size W0 wr) (λ_ i _=>p.aP.length - (RowKit.intOf i).toNat)
 case atStart=>exact⟨0,aK _,rfl,by unfold En dA.bin;simp[nH],Hq⟩
 case round=>
  clear y0 y1 x0 x1 x2 x3 x4 x5 x6 eP eU;clear k1;obtain⟨k,hk,rfl,rfl,hbw⟩:=hrel;have hB:=hb0.trans (hbw.mono hb0.size);obtain⟨t1,t2⟩:=X7 zy.O hbb.O hk;obtain⟨⟨y0,y1⟩,x0,x1,x2,x3,x4,x5,x6,eP,eU⟩:=hK.O wr (hbw);by_cases hlt:k<p.aP.length
  ·obtain⟨os0,ls0,rs0⟩:=(hSz.O wr hB).at_.int hlt;obtain⟨m3,m4⟩:=Xg zy.O b hlt;have q0:=λo d os=>bY (w:=wr) (b:=w.heap.size) eU o d os
   have q1:=λo d os=>bY (w:=wr) (b:=w.heap.size+1) eP o d os
   have q2:=λo d os=>bY (w:=wr) (b:=jd As) ls0 o d os
   have hV2:=ah (λd os=>hV.O _ (hB.trans ((kW wr d os).mono hB.size)))
   have hsu:=ah (jam p s b k);have hw2:IntKind.i64.wrap (iq s b k*bI p.aP k)=iq s b k*bI p.aP k:=aN _ (by omega)
   have hw3:IntKind.i64.wrap (En p s b k - iq s b k*bI p.aP k)=En p s b k - iq s b k*bI p.aP k:=aN _ (by omega)
   go_wp2_with fail;refine dG (by kernel_rfl) (by kernel_rfl) ?_
   repeat(go_big_quiet_step ((go_at_call 107;refine gI (LU _ _ p s _ _ (hV2.O _ _) zy.O))))
   refine wpQuiet_nil ?_
   intro W2 hw';have hb2:=dD hw';clear hw';clear q0 q1 q2 hw2 hw3;go_wp2_with fail;go_roundw
   case rel=>exact⟨k+1,by omega,by go_num,by rw[hsu.O],hbw.trans (hb2.mono hbw.size)⟩
   case measure=>simp[RowKit.intOf];omega
  ·obtain rfl:k=p.aP.length:=by omega
   go_wp2_with fail;go_ret
   exact⟨iF (jcl _ _ _),hB⟩
end Wh
namespace Wh
open Go Go.RowKit Go.Shelf Go.Proofs Tryz
attribute [local go_sem] aT jW jm kC
def dH:SV:=⟨mJ,mJ,mJ,mJ,mJ,mJ,mJ,[],[]⟩
theorem dK.zero(w:World)(aO:Nat):dK w aO dH jD:=
 ⟨Own.nil,rfl,(λb h=>by cases h),Own.nil,rfl,(λo h=>by cases h),Own.nil,Own.nil,Own.nil,Own.nil,Own.nil,by unfold D6 dH;simp[mJ,Value.ownBlock],List.Pairwise.nil⟩
theorem vG(W:World):jk (W.alloc (.cells #[.slice none 0 0,.slice none 0 0,.slice none 0 0,.slice none 0 0,.slice none 0 0,.slice none 0 0,.slice none 0 0] 31)) W.heap.size dH:=iV.new _ _ _
theorem qX{W w3:World}{o:Obj}(hg:(W.alloc o).grownBy w3 (some W.heap.size)):Below W.heap.size W w3:=((aj _ _).alloc (au _) _).grown hg (by simp) (λk hk=>by injection hk with hk;omega)
theorem dK.pushRow{w:World}{aO:Nat}{V:SV}{s:aJ}{w1 w2:World}(h:dK w aO V s)(hb:Below w.heap.size w w1){u:Value}{x:List Int}(hu:Own jJ 1 3 w1 aO u x)(hf:∀g,u.ownBlock=some g->w.heap.size<=g)(hg:w1.grownBy w2 V.on.ownBlock)
  {v':Value} (hv:Own (λu:Value=>[u]) 1 23 w2 aO v' (V.rows++[u])):dK w2 aO {V with on:=v',rows:=V.rows++[u]} {s with on:=s.on++[x]}:=by
 have k:=h.below hb;have hlt:∀a,a∈V.rows++[V.gY,V.O,V.bg]->∀g,a.ownBlock=some g->g<w.heap.size:=by
  intro a ha g hg;rcases jT.1 ha with ha|ha
  ·obtain⟨i,hi,rfl⟩:=aV ha;have hil:i<s.on.length:=by rw[<- h.rlen];exact hi
   have e1:V.row i=V.rows[i]:=by unfold SV.row;simp[hi]
   exact((h.row i hil).size g (by rw[e1];exact hg)).2
  ·simp only[jM,oK,ny]at ha
   rcases ha with rfl|rfl|rfl
   ·exact(h.gY.size g hg).2
   ·exact(h.O.size g hg).2
   ·exact(h.bg.size g hg).2
 refine⟨hv,by simp[h.rlen],λb hlt=>?_,k.ak.kept hg (k.ak.apart k.on (by decide)),k.llen,λo ho=>(k.aG o ho).kept hg ((k.aG o ho).apart k.on (by decide)),k.aA.kept hg (k.aA.apart k.on (by decide)),k.aF.kept hg (k.aF.apart k.on (by decide)),k.gY.kept hg (k.gY.apart k.on (by decide)),k.O.kept hg (k.O.apart k.on (by decide)),k.bg.kept hg (k.bg.apart k.on (by decide)),?_,k.yS⟩
 ·have hb':b<s.on.length+1:=by simpa using hlt
  by_cases hlt:b<s.on.length
  ·have e1:SV.row {V with on:=v',rows:=V.rows++[u]} b=V.row b:=by
    unfold SV.row;simp[fE (show b<V.rows.length by rw[h.rlen];exact hlt)]
   have e2:fO (s.on++[x]) b=fO s.on b:=by
    unfold fO;simp[fE hlt]
   rw[e1];show Own jJ 1 3 w2 aO (V.row b) (fO (s.on++[x]) b);rw[e2];exact(k.row b hlt).kept hg ((k.row b hlt).apart k.on (by decide))
  ·have hb2:b=s.on.length:=by omega
   have e1:SV.row {V with on:=v',rows:=V.rows++[u]} b=u:=by
    unfold SV.row;rw[hb2,<- h.rlen];simp
   have e2:fO (s.on++[x]) b=x:=by
    unfold fO;rw[hb2];simp
   rw[e1];show Own jJ 1 3 w2 aO u (fO (s.on++[x]) b);rw[e2];exact hu.kept hg (hu.apart k.on (by decide))
 ·show D6 (V.rows++[u]++[V.gY,V.O,V.bg]);have ha:=h.apart;unfold D6 at ha ⊢
  obtain⟨p1,p2,p3⟩:=lD.1 ha;rw[eH,lD];refine⟨p1,rJ.2 ⟨λb hb g hg he=>?_,p2⟩,λa ha b hb g hg he=>?_⟩
  ·have h1:=hlt b (List.mem_append_right _ hb) g he;have h2:=hf g hg;omega
  ·rcases jT.1 hb with hb|hb
   ·obtain rfl:=iP.1 hb;have h1:=hlt a (List.mem_append_left _ ha) g hg;have h2:=hf g he;omega
   ·exact p3 a ha b hb g hg he
theorem dK.one{w:World}{aO:Nat}{V:SV}{s:aJ}(h:dK w aO V s):V.cells.all (λu=>u.oneCell')=true:=by
 simp[SV.cells,qO h.on,qO h.ak,qO h.aA,qO h.aF,qO h.gY,qO h.O,qO h.bg]
theorem jdA(n:Nat):(madeCells #[Value.int .i64 0] n).toList=(List.replicate n (0:Int)).flatMap jJ:=by
 induction n with
 |zero=>simp[madeCells]
 |succ n ih=>
  rw[BP,gy,<- ih];unfold madeCells;rw[Array.range_succ];simp[jJ,Nat.mod_one]
theorem Own.Je(w:World)(n:Nat)(hn:n<=1000):Own jJ 1 3 (w.alloc (.cells (madeCells #[Value.int .i64 0] n) 3)) w.heap.size (.slice (some ⟨w.heap.size,0,none⟩) n n) (List.replicate n 0):=by
 have:=Own.lit (aO:=w.heap.size) (enc:=jJ) (size:=1) w 3 (madeCells #[Value.int .i64 0] n) (List.replicate n 0) (au _) (by simp;omega) (λ_=>rfl) (jdA n)
 simpa using this
theorem jeR(w:World)(B n cs:Nat)(As:Option Addr)(h1:w.cell? ⟨B,1,none⟩=some (.slice As n cs))(hn:n<=1000):
  Calls prog 150 #[.pointer (some ⟨B,0,none⟩)] w λe w'=>∃A c,e=.returned (.slice A n c)/\Own jJ 1 3 w' w.heap.size (.slice A n c) (List.replicate n 0)/\Below w.heap.size w w':=by
 have hmk:=run_make_row' (P:=prog) 23 3 (.int .i64 0) 8 underlying23 (by kernel_rfl) rfl .i64 .i64 n (by omega) (by omega)
 go_enter func150,ntmps150
 go_wp2_with fail;go_ret
 exact⟨_,_,rfl,Own.Je w n hn,(aj _ _).alloc (au _) _⟩
def Pq(p:dA)(k:Nat):aJ:=
 ⟨List.replicate k (List.replicate p.aP.length 0),[],[],[],List.replicate p.aP.length 0,List.replicate p.aP.length 0,List.replicate p.aP.length 0⟩
theorem jaB(p:dA)(k:Nat):Pq p (k+1)={Pq p k with on:=(Pq p k).on++[List.replicate p.aP.length 0]}:=by
 unfold Pq;simp[BP]
theorem dK.begun{w:World}{aO:Nat}{vi vu vx:Value}{z:List Int}(h1:Own jJ 1 3 w aO vi z)(h2:Own jJ 1 3 w aO vu z)(h3:Own jJ 1 3 w aO vx z)
  (h12:∀g,vi.ownBlock=some g->vu.ownBlock≠some g) (h13:∀g,vi.ownBlock=some g->vx.ownBlock≠some g) (h23:∀g,vu.ownBlock=some g->vx.ownBlock≠some g):
  dK w aO ⟨mJ,mJ,mJ,mJ,vi,vu,vx,[],[]⟩ ⟨[],[],[],[],z,z,z⟩:=
 ⟨Own.nil,rfl,(λb h=>by cases h),Own.nil,rfl,(λo h=>by cases h),Own.nil,Own.nil,h1,h2,h3,by
  unfold D6;refine rJ.2 ⟨λb hb=>?_,rJ.2 ⟨λb hb=>?_,rC _ _⟩⟩
  ·simp only[jM,oK,ny]at hb
   rcases hb with rfl|rfl
   ·exact h12
   ·exact h13
  ·obtain rfl:=iP.1 hb;exact h23,List.Pairwise.nil⟩
theorem jmL(w:World)(v:Value)(p:dA)(hp:mW w w.heap.size v p):
  Calls prog 88 #[v] w λe w'=>∃V,e=.returned (.tuple #[V.val,.int .i64 (gQ p)])/\dK w' w.heap.size V (if gQ p=0 then begin p else jD)/\Below w.heap.size w w':=by
 have hP:=hp;obtain⟨_,_,rfl,⟨Ab,cb,rfl,hlb,hb⟩,⟨As,cs,rfl,hls,hs⟩⟩:=hp;have hb0:Below w.heap.size w ((w.alloc (.cells #[.slice Ab p.bQ.length cb,.slice As p.aP.length cs] 25)).alloc (.cells #[.slice none 0 0,.slice none 0 0,.slice none 0 0,.slice none 0 0,.slice none 0 0,.slice none 0 0,.slice none 0 0] 31)):=((aj _ _).alloc (au _) _).alloc (by simp) _
 have lg:w.heap.size+1<((w.alloc (.cells #[.slice Ab p.bQ.length cb,.slice As p.aP.length cs] 25)).alloc (.cells #[.slice none 0 0,.slice none 0 0,.slice none 0 0,.slice none 0 0,.slice none 0 0,.slice none 0 0,.slice none 0 0] 31)).heap.size:=by simp
 have hk0:iV ((w.alloc (.cells #[.slice Ab p.bQ.length cb,.slice As p.aP.length cs] 25)).alloc (.cells #[.slice none 0 0,.slice none 0 0,.slice none 0 0,.slice none 0 0,.slice none 0 0,.slice none 0 0,.slice none 0 0] 31)) w.heap.size 25 [.slice Ab p.bQ.length cb,.slice As p.aP.length cs]:=(iV.new _ _ _).alloc _;have hk1:jk ((w.alloc (.cells #[.slice Ab p.bQ.length cb,.slice As p.aP.length cs] 25)).alloc (.cells #[.slice none 0 0,.slice none 0 0,.slice none 0 0,.slice none 0 0,.slice none 0 0,.slice none 0 0,.slice none 0 0] 31)) (w.heap.size+1) dH:=by
  have:=iV.new (w.alloc (.cells #[.slice Ab p.bQ.length cb,.slice As p.aP.length cs] 25)) 31 #[.slice none 0 0,.slice none 0 0,.slice none 0 0,.slice none 0 0,.slice none 0 0,.slice none 0 0,.slice none 0 0];rw[cO]at this
  exact this
 have hP':=ah (λW (hW:Below w.heap.size w W)=>hP.up hW hW.size)
 clear hb hs hP;go_enter func88,ntmps88
 go_wp2_with fail;generalize hW0:(w.alloc (.cells #[.slice Ab p.bQ.length cb,.slice As p.aP.length cs] 25)).alloc _=W0 at hb0 lg hk0 hk1 ⊢
 clear hW0;have hk0':=ah hk0;have jgb:=ah hk1;clear hk0 hk1;refine(OZ _ _ p (hP'.O _ hb0)).mono ?_
 rintro e W1 ⟨rfl,hb1⟩;have hB1:=hb0.trans (hb1.mono hb0.size);have hz1:=aI lg hb1.size;have hx1:=jgb.O.below hb1 lg;by_cases hz:gQ p=0
 ·obtain⟨_,hc6,_,hc3⟩:=pJ hz;rw[hz];have hz':=ah hz;clear hz;have hp1:=(hk0'.O.below hb1 (by omega)).cell (j:=1) rfl
  go_wp2_with fail;refine(jeR W1 w.heap.size _ _ _ hp1 (by omega)).mono ?_
  rintro e W2 ⟨E2,k2,rfl,ho2,hb2⟩;have BG:=hb1.trans (hb2.mono hb1.size);have hp2:=(hk0'.O.below BG (by omega)).cell (j:=1) rfl
  clear hp1;go_wp2_with fail;refine(jeR W2 w.heap.size _ _ _ hp2 (by omega)).mono ?_
  rintro e W3 ⟨E3,k3,rfl,ho3,hb3⟩;have Oe:=BG.trans (hb3.mono BG.size);have hp3:=(hk0'.O.below Oe (by omega)).cell (j:=1) rfl
  clear hp2;go_wp2_with fail;refine(jeR W3 w.heap.size _ _ _ hp3 (by omega)).mono ?_
  rintro e W4 ⟨E4,k4,rfl,Uw,hb4⟩;have jaj:=Oe.trans (hb4.mono Oe.size);clear hp3;have hO:=dK.begun ((ho2.below (hb3.trans (hb4.mono hb3.size))).from_ hb1.size) ((ho3.below hb4).from_ (BG).size) (Uw.from_ Oe.size)
   (λg h h'=>by have:=(ho2.size g h).2;have:=(ho3.size g h').1;omega) (λg h h'=>by have:=(ho2.size g h).2;have:=(Uw.size g h').1;have:=hb3.size;omega) (λg h h'=>by have:=(ho3.size g h).2;have:=(Uw.size g h').1;omega)
  have hone:=hO.one;have hO':=ah hO;clear hO ho2 ho3 Uw;have hnb:jk (W4.alloc (.cells #[.slice none 0 0,.slice none 0 0,.slice none 0 0,.slice none 0 0,.slice none 0 0,.slice none 0 0,.slice none 0 0] 31)) W4.heap.size dH:=iV.new _ _ _;go_wp2_with (refine dB (.tmp 6) (.tmp 20) dH ⟨mJ,mJ,mJ,mJ,.slice E2 p.aP.length k2,.slice E3 p.aP.length k3,.slice E4 p.aP.length k4,[],[]⟩ rfl hnb rfl hone (λw5 Jl hg5=>?_);refine aW ?_)
  unfold Hid;have hlb:W0.heap.size<=W4.heap.size:=jaj.size;have jeh:Below W0.heap.size W0 w5:=(jaj.alloc jaj.size _).grown hg5 (by have:=jaj.size;simp;omega) (λk hk=>by injection hk with hk;omega)
  have hO5:=(hO'.O.alloc (.cells #[.slice none 0 0,.slice none 0 0,.slice none 0 0,.slice none 0 0,.slice none 0 0,.slice none 0 0,.slice none 0 0] 31)).keptBy hg5 hnb.blk (by decide) (by decide) (by decide) (by decide) (by decide) (by decide)
  have jrT:=ah hO5;have QC:=ah Jl;have hpl0:=(hk0'.O.below jeh (by omega)).cell (j:=0) rfl
  clear hO5 Jl hO' hnb hg5 hone hb2 hb3 hb4 BG Oe jaj;generalize W4.heap.size=b at hlb QC ⊢
  go_wp2_with fail;go_loopw[24] (λi wr=>∃(k:Nat) (V:SV),k<=p.bQ.length/\i=.int .i64 k/\dK wr W0.heap.size V (Pq p k)/\jk wr b V/\Below W0.heap.size W0 wr) (λi _=>p.bQ.length - (RowKit.intOf i).toNat)
  case atStart=>exact⟨0,_,aK _,rfl,jrT.O,QC.O,jeh⟩
  case round=>
   clear hpl0 jrT QC jeh;obtain⟨k,V,hk,rfl,hOw,hbx,hbw⟩:=hrel;have H7:=ah hOw;have AZ:=ah hbx;have hB:=hb0.trans (hbw.mono hb0.size);have jb2:=hbx.lt;clear hOw hbx;by_cases hlt:k<p.bQ.length
   ·go_wp2_with fail;refine qZ 5 [
     λg _=>g 26=.pointer (some ⟨b,0,none⟩),λg _=>g 27=V.on,λg _=>g 28=.func (.func 150) #[] #[.pointer (some ⟨w.heap.size,0,none⟩)],λg w'=>(λv w'=>Own jJ 1 3 w' wr.heap.size v (List.replicate p.aP.length 0)) (g 29) w',λg w'=>(λv w'=>∃bb u,v=.slice (some ⟨bb,0,none⟩) 1 1/\w'.cell? ⟨bb,0,none⟩=some u/\bb<w'.heap.size/\Own jJ 1 3 w' wr.heap.size u (List.replicate p.aP.length 0)) (g 30) w'] (by kernel_rfl) (by kernel_rfl) rfl (by kernel_rfl) ?_ (λf w2 hb2 hR=>?_)
    simp only[bC,bV];refine dX.cons (iR.val rfl rfl (λg w' hb ho hd=>?_)) ?_
    ·have e1:=ho 6 rfl;go_simp
    refine dX.cons (iR.val rfl rfl (λg w' hb ho hd=>?_)) ?_
    ·have e1:g 26=.pointer (some ⟨b,0,none⟩):=hd ⟨0,.data⟩ (by simp) rfl (by decide)
     have x0:=(AZ.O.below hb jb2).cells.1;go_simp
    refine dX.cons (iR.val rfl rfl (λg w' hb ho hd=>?_)) ?_
    ·have e1:=ho 5 rfl;go_simp
    refine dX.cons (iR.one (d:=29) (p:=(λv w'=>Own jJ 1 3 w' wr.heap.size v (List.replicate p.aP.length 0))) rfl rfl (λv w1 w2 h hb=>h.below hb) (λg w' hb ho hd=>?_)) ?_
    ·have e1:g 28=.func (.func 150) #[] #[.pointer (some ⟨w.heap.size,0,none⟩)]:=hd ⟨2,.data⟩ (by simp) rfl (by decide)
     have hp1:=(hk0'.O.below (hbw.trans (hb.mono hbw.size)) (by omega)).cell (j:=1) rfl
     unfold iT;go_simp
     refine(jeR w' w.heap.size _ _ _ hp1 (by omega)).mono ?_
     rintro e w2 ⟨E,kc,rfl,ho2,hb2⟩;exact⟨_,rfl,ho2.from_ hb.size,hb2⟩
    refine dX.cons (iR.one (d:=30) (p:=(λv w'=>∃bb u,v=.slice (some ⟨bb,0,none⟩) 1 1/\w'.cell? ⟨bb,0,none⟩=some u/\bb<w'.heap.size/\Own jJ 1 3 w' wr.heap.size u (List.replicate p.aP.length 0))) rfl rfl (λv w1 w2 h hb=>?_) (λg w' hb ho hd=>?_)) ?_
    ·obtain⟨bb,u,h1,h2,h3,h4⟩:=h;exact⟨bb,u,h1,(hb.cell (p:=⟨bb,0,none⟩) h3).trans h2,aI h3 hb.size,h4.below hb⟩
    ·have e1:Own jJ 1 3 w' wr.heap.size (g 29) (List.replicate p.aP.length 0):=hd ⟨3,.data⟩ (by simp) rfl (by decide)
     obtain⟨E,kc,e2⟩:=e1.isSlice;have e1':=ah e1;clear e1;unfold iT;go_simp
     have e3:Own jJ 1 3 w' wr.heap.size (.slice E p.aP.length kc) (List.replicate p.aP.length 0):=by
      have:=e1'.O;rw[e2]at this
      simpa using this
     exact⟨e3.alloc _,(aj _ _).alloc (au _) _⟩
    exact dX.nil;obtain⟨r0,r1,r2,r3,⟨bb,u,r4,c4,l4,o4⟩,_⟩:=hR;simp only[kG,zB,bC,bV,eG,gW,eX,fF,fB,gV,bM,dF,dL,r0,r1,r2,r4];clear r0 r1 r2 r3 r4;have X4:=H7.O.below hb2;have huf:∀g,Value.ownBlock u=some g->wr.heap.size<=g:=λg hg=>(o4.size g hg).1
    refine lS _ rfl (.tmp 27) (.tmp 30) 26 23 rfl W0.heap.size _ 1 24 underlying26 Rw rfl (by decide) (by decide) V.on V.rows u rfl X4.on ⟨bb,0,none⟩ 1 rfl rfl (λj x hj=>by
     cases j with
     |zero=>simp only[oN,mZ]at hj;subst hj;exact c4
     |succ j=>simp at hj) (UR _ (qO o4)) (by rw[X4.rlen];simp[Pq];omega) (aY hbw.size hb2.size) ?_
    intro v7 w7 yM LC Tc ET;have X6:=H7.O.pushRow hb2 (o4.from_ hbw.size) huf LC yM;have FV:jk w7 b V:=(AZ.O.below hb2 jb2).grown LC (λhe=>by
     rcases X4.on.mQ (AZ.O.below hb2 jb2).blk (by decide)with h|h
     ·rw[h]at he;cases he
     ·exact h he.symm)
    have QA:Below W0.heap.size W0 w7:=(hbw.trans (hb2.mono hbw.size)).trans ET;have Xw:=X6.box FV 0 v7;have Jm:=FV.Yv v7;rw[<- jaB]at Xw
    have jaf:=QA.setCell (p:=⟨b,0,none⟩) hlb v7;obtain⟨Av,cv,hv7⟩:=yM.isSlice;simp only[aZ,dw,dY,eY]at hv7
    have jak:=ah Xw;have Oh:=ah Jm;have q1:=FV.cells.1;have qf:=FV.frozen 0;clear Xw Jm X6 FV yM LC Tc ET huf X4 o4 c4;subst hv7;go_wp2_with fail;go_roundw
    case rel=>exact⟨k+1,_,by omega,by go_num,jak.O,Oh.O,jaf⟩
    case measure=>simp[RowKit.intOf];omega
   ·obtain rfl:k=p.bQ.length:=by omega
    have hR1:=jgb.O.below hbw lg;obtain⟨b0,b1,b2,b3,b4,b5,b6⟩:=AZ.O.cells;have hone:=H7.O.one;go_wp2_with (refine dB (.tmp 2) (.tmp 34) dH V rfl hR1 rfl hone (λw9 dM je=>?_))
    have wC:=H7.O.keptBy je hR1.blk (by decide) (by decide) (by decide) (by decide) (by decide) (by decide)
    obtain⟨p0,p1,p2,p3,p4,p5,p6⟩:=dM.cells;have bK:Below w.heap.size w w9:=hB.grown je hB.size (λk hk=>by injection hk with hk;omega)
    have hsB:w.heap.size<=W0.heap.size:=hb0.size;clear b0 b1 b2 b3 b4 b5 b6;go_wp2_with fail;exact fD (v:=.tuple #[V.val,.int .i64 0]) (by simp[results,results88,go_sem,SV.val,p0,p1,p2,p3,p4,p5,p6]) rfl ⟨V,rfl,wC.from_ hsB,bK⟩
 ·have hne:(gQ p !=0)=true:=by simpa using hz
  go_wp2_with (refine dB (.tmp 2) (.tmp 11) dH dH rfl hx1 rfl rfl (λw9 dM je=>?_))
  obtain⟨p0,p1,p2,p3,p4,p5,p6⟩:=dM.cells;have bK:Below w.heap.size w w9:=hB1.grown je hB1.size (λk hk=>by injection hk with hk;omega)
  go_wp2_with fail;refine fD (v:=.tuple #[dH.val,.int .i64 (gQ p)]) (by simp[results,results88,go_sem,SV.val,p0,p1,p2,p3,p4,p5,p6]) rfl ⟨dH,rfl,?_,bK⟩
  exact dK.zero _ _
structure RB(w:World)(aO:Nat)(V:SV)(z:List Int)(k:Nat):Prop where
 on:Own (λu:Value=>[u]) 1 23 w aO V.on V.rows
 rlen:V.rows.length=k
 row:∀b,b<k->Own jJ 1 3 w aO (V.row b) z
 gY:Own jJ 1 3 w aO V.gY z
 O:Own jJ 1 3 w aO V.O z
 bg:Own jJ 1 3 w aO V.bg z
 YH:V.ak=mJ
 YG:V.aA=mJ
 VH:V.aF=mJ
namespace RB
variable {w w':World} {aO:Nat} {V:SV} {z:List Int} {k:Nat}
theorem below(h:RB w aO V z k)(hb:Below w.heap.size w w'):RB w' aO V z k:=
 ⟨h.on.below hb,h.rlen,λb hk=>(h.row b hk).below hb,h.gY.below hb,h.O.below hb,h.bg.below hb,h.YH,h.YG,h.VH⟩
theorem keptBy(h:RB w aO V z k){b:Nat}{t:TypeId}{cur:List Value}(hg:w.grownBy w' (some b))(hb:iV w b t cur)(h1:23≠t)(h2:3≠t):RB w' aO V z k:=
 ⟨h.on.kept hg (h.on.mQ hb h1),h.rlen,λb hk=>(h.row b hk).kept hg ((h.row b hk).mQ hb h2),h.gY.kept hg (h.gY.mQ hb h2),h.O.kept hg (h.O.mQ hb h2),h.bg.kept hg (h.bg.mQ hb h2),h.YH,h.YG,h.VH⟩
theorem from_(h:RB w aO V z k){base':Nat}(hb:base'<=aO):RB w base' V z k:=
 ⟨h.on.from_ hb,h.rlen,λb hk=>(h.row b hk).from_ hb,h.gY.from_ hb,h.O.from_ hb,h.bg.from_ hb,h.YH,h.YG,h.VH⟩
theorem one(h:RB w aO V z k):V.cells.all (λu=>u.oneCell')=true:=by
 simp[SV.cells,qO h.on,qO h.gY,qO h.O,qO h.bg,h.YH,h.YG,h.VH,show mJ.oneCell'=true from rfl]
theorem push(h:RB w aO V z k){u v':Value}(hu:Own jJ 1 3 w aO u z)(hg:w.grownBy w' V.on.ownBlock)(hv:Own (λu:Value=>[u]) 1 23 w' aO v' (V.rows++[u])):RB w' aO {V with on:=v',rows:=V.rows++[u]} z (k+1):=by
 refine⟨hv,by simp[h.rlen],λb hb=>?_,h.gY.kept hg (h.gY.apart h.on (by decide)),h.O.kept hg (h.O.apart h.on (by decide)),h.bg.kept hg (h.bg.apart h.on (by decide)),h.YH,h.YG,h.VH⟩
 by_cases hlt:b<k
 ·have e1:SV.row {V with on:=v',rows:=V.rows++[u]} b=V.row b:=by
   unfold SV.row;simp[fE (show b<V.rows.length by rw[h.rlen];exact hlt)]
  rw[e1];exact(h.row b hlt).kept hg ((h.row b hlt).apart h.on (by decide))
 ·have hb2:b=k:=by omega
  have e1:SV.row {V with on:=v',rows:=V.rows++[u]} b=u:=by
   unfold SV.row;rw[hb2,<- h.rlen];simp
  rw[e1];exact hu.kept hg (hu.apart h.on (by decide))
theorem view{p:dA}(h:RB w aO V (List.replicate p.aP.length 0) p.bQ.length)(hc:p.bQ.length<=1000)(hc2:p.aP.length<=1000):lK w w.heap.size V.val (begin p):=by
 obtain⟨A,c,e,_,hA⟩:=h.on.sl (by rw[h.rlen];omega)
 have hrl:=h.rlen;refine⟨_,_,_,_,_,_,_,rfl,⟨A,c,V.rows,by rw[e,hrl];simp[begin],by simp[begin];omega,by simp[begin,hrl],?_,λi x hi=>?_⟩,?_,?_,?_,h.gY.sl (by simp;omega),h.O.sl (by simp;omega),h.bg.sl (by simp;omega)⟩
 ·have:V.rows.flatMap (λu=>[u])=V.rows:=by simp
  rw[this]at hA
  exact hA
 ·have hi':(List.replicate p.bQ.length (List.replicate p.aP.length (0:Int)))[i]?=some x:=hi;rw[List.getElem?_replicate]at hi'
  by_cases hlt:i<p.bQ.length
  ·rw[aB hlt]at hi'
   injection hi' with hi'
   subst hi';refine⟨V.row i,?_,(h.row i hlt).sl (by simp;omega)⟩
   unfold SV.row;simp[show i<V.rows.length by omega]
  ·rw[ay hlt]at hi'
   cases hi'
 ·rw[h.YH];exact⟨none,0,[],rfl,by simp[begin],rfl,At.nil,λi x h=>by simp[begin]at h⟩
 ·rw[h.YG];exact Sl.nil
 ·rw[h.VH];exact Sl.nil
end RB
theorem jhq(w:World)(v:Value)(p:dA)(hp:mW w w.heap.size v p)(hz:gQ p=0):
  Calls prog 89 #[v] w λe w'=>∃V,e=.returned V.val/\RB w' w.heap.size V (List.replicate p.aP.length 0) p.bQ.length/\Below w.heap.size w w':=by
 obtain⟨_,hc6,_,hc3⟩:=pJ hz;clear hz;have hP:=hp;obtain⟨_,_,rfl,⟨Ab,cb,rfl,hlb,hb⟩,⟨As,cs,rfl,hls,hs⟩⟩:=hp;have hb0:Below w.heap.size w ((w.alloc (.cells #[.slice Ab p.bQ.length cb,.slice As p.aP.length cs] 25)).alloc (.cells #[.slice none 0 0,.slice none 0 0,.slice none 0 0,.slice none 0 0,.slice none 0 0,.slice none 0 0,.slice none 0 0] 31)):=((aj _ _).alloc (au _) _).alloc (by simp) _
 have lg:w.heap.size+1<((w.alloc (.cells #[.slice Ab p.bQ.length cb,.slice As p.aP.length cs] 25)).alloc (.cells #[.slice none 0 0,.slice none 0 0,.slice none 0 0,.slice none 0 0,.slice none 0 0,.slice none 0 0,.slice none 0 0] 31)).heap.size:=by simp
 have hk0:iV ((w.alloc (.cells #[.slice Ab p.bQ.length cb,.slice As p.aP.length cs] 25)).alloc (.cells #[.slice none 0 0,.slice none 0 0,.slice none 0 0,.slice none 0 0,.slice none 0 0,.slice none 0 0,.slice none 0 0] 31)) w.heap.size 25 [.slice Ab p.bQ.length cb,.slice As p.aP.length cs]:=(iV.new _ _ _).alloc _;have hk1:jk ((w.alloc (.cells #[.slice Ab p.bQ.length cb,.slice As p.aP.length cs] 25)).alloc (.cells #[.slice none 0 0,.slice none 0 0,.slice none 0 0,.slice none 0 0,.slice none 0 0,.slice none 0 0,.slice none 0 0] 31)) (w.heap.size+1) dH:=by
  have:=iV.new (w.alloc (.cells #[.slice Ab p.bQ.length cb,.slice As p.aP.length cs] 25)) 31 #[.slice none 0 0,.slice none 0 0,.slice none 0 0,.slice none 0 0,.slice none 0 0,.slice none 0 0,.slice none 0 0];rw[cO]at this
  exact this
 clear hb hs hP;have hmk:=run_make_row' (P:=prog) 23 3 (.int .i64 0) 8 underlying23 (by kernel_rfl) rfl .i64 .i64 p.aP.length (by omega) (by omega)
 have hmk':=ah hmk;clear hmk;go_enter func89,ntmps89
 go_wp2_with fail;generalize hW0:(w.alloc (.cells #[.slice Ab p.bQ.length cb,.slice As p.aP.length cs] 25)).alloc _=W0 at hb0 lg hk0 hk1 ⊢
 clear hW0;have hk0':=ah hk0;have jgb:=ah hk1;clear hk0 hk1;refine qZ 14 [λgq _=>gq 5=.pointer (some ⟨w.heap.size,1,none⟩),λgq _=>gq 6=.slice As p.aP.length cs,λgq _=>gq 7=.int .i64 p.aP.length,λgq w'=>(λv w'=>Own jJ 1 3 w' W0.heap.size v (List.replicate p.aP.length 0)) (gq 8) w',λgq _=>gq 9=.pointer (some ⟨w.heap.size,1,none⟩),λgq _=>gq 10=.slice As p.aP.length cs,λgq _=>gq 11=.int .i64 p.aP.length,λgq w'=>(λv w'=>Own jJ 1 3 w' W0.heap.size v (List.replicate p.aP.length 0)) (gq 12) w',λgq _=>gq 13=.pointer (some ⟨w.heap.size,1,none⟩),λgq _=>gq 14=.slice As p.aP.length cs,λgq _=>gq 15=.int .i64 p.aP.length,λgq w'=>(λv w'=>Own jJ 1 3 w' W0.heap.size v (List.replicate p.aP.length 0)) (gq 16) w',λgq w'=>(λv w'=>∃u8 u12 u16,v=.agg #[.slice none 0 0,.slice none 0 0,.slice none 0 0,.slice none 0 0,u8,u12,u16]/\Own jJ 1 3 w' W0.heap.size u8 (List.replicate p.aP.length 0)/\Own jJ 1 3 w' W0.heap.size u12 (List.replicate p.aP.length 0)/\Own jJ 1 3 w' W0.heap.size u16 (List.replicate p.aP.length 0)) (gq 17) w',λgq w'=>(λv w'=>∃b,v=.pointer (some ⟨b,0,none⟩)/\W0.heap.size<=b/\jk w' b dH) (gq 3) w'] (by kernel_rfl) (by kernel_rfl) rfl (by kernel_rfl) ?_ (λf w2 hb2 hR=>?_)
 simp only[bC,bV];refine dX.cons (iR.val rfl rfl (λgq w' hb ho hd=>?_)) ?_
 ·have e1:=ho 1 rfl;go_simp
 refine dX.cons (iR.val rfl rfl (λgq w' hb ho hd=>?_)) ?_
 ·have e5:gq 5=.pointer (some ⟨w.heap.size,1,none⟩):=hd ⟨0,.data⟩ (by simp) rfl (by decide)
  have x1:=(hk0'.O.below hb (by omega)).cell (j:=1) rfl
  go_simp
 refine dX.cons (iR.val rfl rfl (λgq w' hb ho hd=>?_)) ?_
 ·have e6:gq 6=.slice As p.aP.length cs:=hd ⟨1,.data⟩ (by simp) rfl (by decide)
  go_simp
 refine dX.cons (iR.one (d:=8) (p:=(λv w'=>Own jJ 1 3 w' W0.heap.size v (List.replicate p.aP.length 0))) rfl rfl (λv w1 w2 h hb=>h.below hb) (λgq w' hb ho hd=>?_)) ?_
 ·have e7:gq 7=.int .i64 p.aP.length:=hd ⟨2,.data⟩ (by simp) rfl (by decide)
  have hmk:=hmk'.O;unfold iT;go_simp
  exact⟨(Own.Je w' p.aP.length (by omega)).from_ hb.size,(aj _ _).alloc (au _) _⟩
 refine dX.cons (iR.val rfl rfl (λgq w' hb ho hd=>?_)) ?_
 ·have e1:=ho 1 rfl;go_simp
 refine dX.cons (iR.val rfl rfl (λgq w' hb ho hd=>?_)) ?_
 ·have e9:gq 9=.pointer (some ⟨w.heap.size,1,none⟩):=hd ⟨4,.data⟩ (by simp) rfl (by decide)
  have x1:=(hk0'.O.below hb (by omega)).cell (j:=1) rfl
  go_simp
 refine dX.cons (iR.val rfl rfl (λgq w' hb ho hd=>?_)) ?_
 ·have e10:gq 10=.slice As p.aP.length cs:=hd ⟨5,.data⟩ (by simp) rfl (by decide)
  go_simp
 refine dX.cons (iR.one (d:=12) (p:=(λv w'=>Own jJ 1 3 w' W0.heap.size v (List.replicate p.aP.length 0))) rfl rfl (λv w1 w2 h hb=>h.below hb) (λgq w' hb ho hd=>?_)) ?_
 ·have e11:gq 11=.int .i64 p.aP.length:=hd ⟨6,.data⟩ (by simp) rfl (by decide)
  have hmk:=hmk'.O;unfold iT;go_simp
  exact⟨(Own.Je w' p.aP.length (by omega)).from_ hb.size,(aj _ _).alloc (au _) _⟩
 refine dX.cons (iR.val rfl rfl (λgq w' hb ho hd=>?_)) ?_
 ·have e1:=ho 1 rfl;go_simp
 refine dX.cons (iR.val rfl rfl (λgq w' hb ho hd=>?_)) ?_
 ·have e13:gq 13=.pointer (some ⟨w.heap.size,1,none⟩):=hd ⟨8,.data⟩ (by simp) rfl (by decide)
  have x1:=(hk0'.O.below hb (by omega)).cell (j:=1) rfl
  go_simp
 refine dX.cons (iR.val rfl rfl (λgq w' hb ho hd=>?_)) ?_
 ·have e14:gq 14=.slice As p.aP.length cs:=hd ⟨9,.data⟩ (by simp) rfl (by decide)
  go_simp
 refine dX.cons (iR.one (d:=16) (p:=(λv w'=>Own jJ 1 3 w' W0.heap.size v (List.replicate p.aP.length 0))) rfl rfl (λv w1 w2 h hb=>h.below hb) (λgq w' hb ho hd=>?_)) ?_
 ·have e15:gq 15=.int .i64 p.aP.length:=hd ⟨10,.data⟩ (by simp) rfl (by decide)
  have hmk:=hmk'.O;unfold iT;go_simp
  exact⟨(Own.Je w' p.aP.length (by omega)).from_ hb.size,(aj _ _).alloc (au _) _⟩
 refine dX.cons (iR.one (d:=17) (p:=(λv w'=>∃u8 u12 u16,v=.agg #[.slice none 0 0,.slice none 0 0,.slice none 0 0,.slice none 0 0,u8,u12,u16]/\Own jJ 1 3 w' W0.heap.size u8 (List.replicate p.aP.length 0)/\Own jJ 1 3 w' W0.heap.size u12 (List.replicate p.aP.length 0)/\Own jJ 1 3 w' W0.heap.size u16 (List.replicate p.aP.length 0))) rfl rfl (λv w1 w2 h hb=>let ⟨a,b,c,h0,h1,h2,h3⟩:=h;⟨a,b,c,h0,h1.below hb,h2.below hb,h3.below hb⟩) (λgq w' hb ho hd=>?_)) ?_
 ·have e8:Own jJ 1 3 w' W0.heap.size (gq 8) (List.replicate p.aP.length 0):=hd ⟨3,.data⟩ (by simp) rfl (by decide)
  have e12:Own jJ 1 3 w' W0.heap.size (gq 12) (List.replicate p.aP.length 0):=hd ⟨7,.data⟩ (by simp) rfl (by decide)
  have e16:Own jJ 1 3 w' W0.heap.size (gq 16) (List.replicate p.aP.length 0):=hd ⟨11,.data⟩ (by simp) rfl (by decide)
  obtain⟨E2,k2,s8⟩:=e8.isSlice;obtain⟨E3,k3,s12⟩:=e12.isSlice;obtain⟨E4,k4,s16⟩:=e16.isSlice;simp only[Bh]at s8 s12 s16
  rw[s8]at e8
  rw[s12]at e12
  rw[s16]at e16
  have e':=ah (And.intro e8 (And.intro e12 e16));clear e8 e12 e16;unfold iT;go_simp
  exact⟨⟨_,_,_,⟨rfl,rfl,rfl⟩,e'.O.1,e'.O.2.1,e'.O.2.2⟩,aj _ _⟩
 refine dX.cons (iR.one (d:=3) (p:=(λv w'=>∃b,v=.pointer (some ⟨b,0,none⟩)/\W0.heap.size<=b/\jk w' b dH)) rfl rfl (λv w1 w2 h hb=>let ⟨b,h1,h2,h3⟩:=h;⟨b,h1,h2,h3.below hb h3.lt⟩) (λgq w' hb ho hd=>?_)) ?_
 ·unfold iT;go_simp
  exact⟨⟨hb.size,iV.new _ _ _⟩,(aj _ _).alloc (au _) _⟩
 exact dX.nil;obtain⟨r5,r6,r7,r8,r9,r10,r11,r12,r13,kK,r15,r16,r17,r3,_⟩:=hR;replace r8:Own jJ 1 3 w2 W0.heap.size (f 8) (List.replicate p.aP.length 0):=r8;replace r12:Own jJ 1 3 w2 W0.heap.size (f 12) (List.replicate p.aP.length 0):=r12;replace r16:Own jJ 1 3 w2 W0.heap.size (f 16) (List.replicate p.aP.length 0):=r16;replace r17:∃u8 u12 u16,(f 17)=.agg #[.slice none 0 0,.slice none 0 0,.slice none 0 0,.slice none 0 0,u8,u12,u16]/\Own jJ 1 3 w2 W0.heap.size u8 (List.replicate p.aP.length 0)/\Own jJ 1 3 w2 W0.heap.size u12 (List.replicate p.aP.length 0)/\Own jJ 1 3 w2 W0.heap.size u16 (List.replicate p.aP.length 0):=r17;replace r3:∃b,(f 3)=.pointer (some ⟨b,0,none⟩)/\W0.heap.size<=b/\jk w2 b dH:=r3;simp only[kG,zB,bC,bV,eG,gW,eX,fF,fB,gV,bM,dF,dL,r5,r6,r7,r9,r10,r11,r13,kK,r15];clear r5 r6 r7 r9 r10 r11 r13 kK r15;obtain⟨u8,u12,u16,t17,o8,o12,o16⟩:=r17;obtain⟨b,t3,hlb,E5⟩:=r3;simp only[t17,t3];clear t17 t3 r8 r12 r16;have hR0:RB w2 W0.heap.size ⟨mJ,mJ,mJ,mJ,u8,u12,u16,[],[]⟩ (List.replicate p.aP.length 0) 0:=⟨Own.nil,rfl,(λb h=>by omega),o8,o12,o16,rfl,rfl,rfl⟩
 have hone:=hR0.one;obtain⟨E2,k2,s8⟩:=o8.isSlice;obtain⟨E3,k3,s12⟩:=o12.isSlice;obtain⟨E4,k4,s16⟩:=o16.isSlice;have jrO:=ah hR0;clear hR0 o8 o12 o16 s8 s12 s16;refine dB (.tmp 3) (.tmp 17) dH ⟨mJ,mJ,mJ,mJ,u8,u12,u16,[],[]⟩ rfl E5 rfl hone (λw3 Nb hg3=>?_)
 have hb3:Below W0.heap.size W0 w3:=hb2.grown hg3 hb2.size (λk hk=>by injection hk with hk;omega)
 have hR3:=ah (jrO.O.keptBy hg3 E5.blk (by decide) (by decide))
 have N9:=ah Nb;clear jrO hone Nb E5 hg3 hb2;refine fC ?_
 go_wp2_with fail;go_loopw[4] (λi wr=>∃(k:Nat) (V:SV),k<=p.bQ.length/\i=.int .i64 k/\RB wr W0.heap.size V (List.replicate p.aP.length 0) k/\jk wr b V/\Below W0.heap.size W0 wr) (λi _=>p.bQ.length - (RowKit.intOf i).toNat)
 case atStart=>exact⟨0,_,aK _,rfl,hR3.O,N9.O,hb3⟩
 case round=>
  clear hR3 N9 hb3;obtain⟨k,V,hk,rfl,hOw,hbx,hbw⟩:=hrel;have H7:=ah hOw;have AZ:=ah hbx;have hB:=hb0.trans (hbw.mono hb0.size);have jb2:=hbx.lt;have hkP:=hk0'.O.below hbw (by omega)
  have hp0:=hkP.cell (j:=0) rfl;clear hOw hbx hkP;by_cases hlt:k<p.bQ.length
  ·go_wp2_with fail;refine qZ 7 [λgq _=>gq 25=.pointer (some ⟨b,0,none⟩),λgq _=>gq 26=V.on,λgq _=>gq 27=.pointer (some ⟨w.heap.size,1,none⟩),λgq _=>gq 28=.slice As p.aP.length cs,λgq _=>gq 29=.int .i64 p.aP.length,λgq w'=>(λv w'=>Own jJ 1 3 w' W0.heap.size v (List.replicate p.aP.length 0)) (gq 30) w',λgq w'=>(λv w'=>∃bb u,v=.slice (some ⟨bb,0,none⟩) 1 1/\w'.cell? ⟨bb,0,none⟩=some u/\bb<w'.heap.size/\Own jJ 1 3 w' W0.heap.size u (List.replicate p.aP.length 0)) (gq 31) w'] (by kernel_rfl) (by kernel_rfl) rfl (by kernel_rfl) ?_ (λf w2 hb2 hR=>?_)
   simp only[bC,bV];refine dX.cons (iR.val rfl rfl (λgq w' hb ho hd=>?_)) ?_
   ·have e3:=ho 3 rfl;go_simp
   refine dX.cons (iR.val rfl rfl (λgq w' hb ho hd=>?_)) ?_
   ·have e25:gq 25=.pointer (some ⟨b,0,none⟩):=hd ⟨0,.data⟩ (by simp) rfl (by decide)
    have x0:=(AZ.O.below hb jb2).cells.1;go_simp
   refine dX.cons (iR.val rfl rfl (λgq w' hb ho hd=>?_)) ?_
   ·have e1:=ho 1 rfl;go_simp
   refine dX.cons (iR.val rfl rfl (λgq w' hb ho hd=>?_)) ?_
   ·have e27:gq 27=.pointer (some ⟨w.heap.size,1,none⟩):=hd ⟨2,.data⟩ (by simp) rfl (by decide)
    have x1:=(hk0'.O.below (hbw.trans (hb.mono hbw.size)) (by omega)).cell (j:=1) rfl
    go_simp
   refine dX.cons (iR.val rfl rfl (λgq w' hb ho hd=>?_)) ?_
   ·have e28:gq 28=.slice As p.aP.length cs:=hd ⟨3,.data⟩ (by simp) rfl (by decide)
    go_simp
   refine dX.cons (iR.one (d:=30) (p:=(λv w'=>Own jJ 1 3 w' W0.heap.size v (List.replicate p.aP.length 0))) rfl rfl (λv w1 w2 h hb=>h.below hb) (λgq w' hb ho hd=>?_)) ?_
   ·have e29:gq 29=.int .i64 p.aP.length:=hd ⟨4,.data⟩ (by simp) rfl (by decide)
    have hmk:=hmk'.O;unfold iT;go_simp
    exact⟨(Own.Je w' p.aP.length (by omega)).from_ (aY hbw.size hb.size),(aj _ _).alloc (au _) _⟩
   refine dX.cons (iR.one (d:=31) (p:=(λv w'=>∃bb u,v=.slice (some ⟨bb,0,none⟩) 1 1/\w'.cell? ⟨bb,0,none⟩=some u/\bb<w'.heap.size/\Own jJ 1 3 w' W0.heap.size u (List.replicate p.aP.length 0))) rfl rfl (λv w1 w2 h hb=>let ⟨bb,u,h1,h2,h3,h4⟩:=h;⟨bb,u,h1,(hb.cell (p:=⟨bb,0,none⟩) h3).trans h2,aI h3 hb.size,h4.below hb⟩) (λgq w' hb ho hd=>?_)) ?_
   ·have e30:Own jJ 1 3 w' W0.heap.size (gq 30) (List.replicate p.aP.length 0):=hd ⟨5,.data⟩ (by simp) rfl (by decide)
    obtain⟨E,kc,s30⟩:=e30.isSlice;simp only[Bh]at s30
    rw[s30]at e30
    have e':=ah e30;clear e30;unfold iT;go_simp
    exact⟨e'.O.alloc _,(aj _ _).alloc (au _) _⟩
   exact dX.nil;obtain⟨r25,r26,r27,r28,r29,r30,r31,_⟩:=hR;replace r30:Own jJ 1 3 w2 W0.heap.size (f 30) (List.replicate p.aP.length 0):=r30;replace r31:∃bb u,(f 31)=.slice (some ⟨bb,0,none⟩) 1 1/\w2.cell? ⟨bb,0,none⟩=some u/\bb<w2.heap.size/\Own jJ 1 3 w2 W0.heap.size u (List.replicate p.aP.length 0):=r31;simp only[kG,zB,bC,bV,eG,gW,eX,fF,fB,gV,bM,dF,dL,r25,r26,r27,r28,r29];clear r25 r26 r27 r28 r29;obtain⟨bb,u,r4,c4,l4,o4⟩:=r31;simp only[r4];clear r4 r30;have X4:=H7.O.below hb2;have hBx2:=AZ.O.below hb2 jb2;refine lS _ rfl (.tmp 26) (.tmp 31) 26 23 rfl W0.heap.size _ 1 24 underlying26 Rw rfl (by decide) (by decide) V.on V.rows u rfl X4.on ⟨bb,0,none⟩ 1 rfl rfl (λj x hj=>by
    cases j with
    |zero=>simp only[oN,mZ]at hj;subst hj;exact c4
    |succ j=>simp at hj) (UR _ (qO o4)) (by rw[X4.rlen];omega) (aY hbw.size hb2.size) ?_
   intro v7 w7 yM LC Tc ET;have X6:=X4.push o4 LC yM;have FV:jk w7 b V:=hBx2.grown LC (λhe=>by
    rcases X4.on.mQ hBx2.blk (by decide)with h|h
    ·rw[h]at he;cases he
    ·exact h he.symm)
   have QA:Below W0.heap.size W0 w7:=(hbw.trans (hb2.mono hbw.size)).trans ET;have Xw:=X6.keptBy (xA FV.blk 0 v7).2 FV.blk (by decide) (by decide)
   have Jm:=FV.Yv v7;have jaf:=QA.setCell (p:=⟨b,0,none⟩) hlb v7;obtain⟨Av,cv,hv7⟩:=yM.isSlice;simp only[aZ,dw,dY,eY]at hv7
   have jak:=ah Xw;have Oh:=ah Jm;have q1:=FV.cells.1;have qf:=FV.frozen 0;clear Xw Jm X6 FV yM LC Tc ET X4 hBx2 o4 c4;subst hv7;go_wp2_with fail;go_roundw
   case rel=>exact⟨k+1,_,by omega,by go_num,jak.O,Oh.O,jaf⟩
   case measure=>simp[RowKit.intOf];omega
  ·obtain rfl:k=p.bQ.length:=by omega
   have hR1:=jgb.O.below hbw lg;obtain⟨b0,b1,b2,b3,b4,b5,b6⟩:=AZ.O.cells;have hone:=H7.O.one;go_wp2_with (refine dB (.tmp 2) (.tmp 34) dH V rfl hR1 rfl hone (λw9 dM je=>?_))
   have wC:=H7.O.keptBy je hR1.blk (by decide) (by decide)
   obtain⟨p0,p1,p2,p3,p4,p5,p6⟩:=dM.cells;have bK:Below w.heap.size w w9:=hB.grown je hB.size (λk hk=>by injection hk with hk;omega)
   clear b0 b1 b2 b3 b4 b5 b6;go_wp2_with fail;exact fD (v:=V.val) (by simp[results,results89,go_sem,SV.val,p0,p1,p2,p3,p4,p5,p6]) rfl ⟨V,rfl,wC.from_ hb0.size,bK⟩
end Wh
namespace Wh
open Go Go.RowKit Go.Proofs Tryz
section
variable {α:Type} {enc:α→List Value} {size:Nat} {e:TypeId} {w:World} {aO:Nat} {v:Value} {l:List α}
theorem Own.at(h:Own enc size e w aO v l)(hk:∀x,(enc x).length=size){i:Nat}(hi:i<l.length):
  ∃g c cur,v=.slice (some ⟨g,0,none⟩) l.length c/\aO<=g/\iV w g e cur/\∀j u,(enc l[i])[j]?=some u->w.cell? ⟨g,i*size+j,none⟩=some u:=by
 obtain⟨g,c,cur,h1,h2,h3,h4,h5,h6,h7⟩:=h.row (by omega)
 refine⟨g,c,cur,h1,h2,h3,λj u hj=>h3.cell ?_⟩
 have hjs:j<size:=by
  have:=(eF.1 hj).1
  rwa [hk]at this
 have hf:=KZ enc size hk l i j l[i] (by simp[hi]) hjs
 rw[<- h7]at hf
 rw[<- hj,<- hf,gJ]
 rw[aB];calc i*size+j<i*size+size:=by omega
  _=(i+1)*size:=by rw[ku];omega
  _<=l.length*size:=mY _ (by omega)
end
theorem iV.ne{w:World}{g g':Nat}{e e':TypeId}{cur cur':List Value}(h:iV w g e cur)(h':iV w g' e' cur')(hne:e≠e'):g≠g':=by
 rintro rfl;unfold iV at h h'
 rw[h]at h'
 injection h' with h'
 injection h' with _ h3
 exact hne h3
theorem jk.off{w w':World}{b g:Nat}{V:SV}{e:TypeId}{cur:List Value}(h:jk w b V)(hg:w.grownBy w' (some g))(hb:iV w g e cur)(hne:e≠31):jk w' b V:=
 h.grown hg (by intro he;injection he with he;exact hb.ne h.blk hne he.symm)
namespace dK
variable {w w':World} {aO:Nat} {V:SV} {s:aJ}
theorem yR(h:dK w aO V s){k:Nat}(hk:k<s.aA.length):∃g c cur,V.aA=.slice (some ⟨g,0,none⟩) s.aA.length c/\aO<=g/\iV w g 46 cur/\
  w.cell? ⟨g,k*4,none⟩=some (.int .i64 (hold s.aA k).aC)/\w.cell? ⟨g,k*4+1,none⟩=some (.int .i64 (hold s.aA k).aG)/\w.cell? ⟨g,k*4+2,none⟩=some (.int .i64 (hold s.aA k).bin)/\w.cell? ⟨g,k*4+3,none⟩=some (.int .i64 (hold s.aA k).n):=by
 obtain⟨g,c,cur,h1,h2,h3,h4⟩:=h.aA.at (λ_=>rfl) hk
 have e:s.aA[k]=hold s.aA k:=by simp[hold,hk]
 rw[e]at h4
 exact⟨g,c,cur,h1,h2,h3,h4 0 _ rfl,h4 1 _ rfl,h4 2 _ rfl,h4 3 _ rfl⟩
theorem bH(h:dK w aO V s){k:Nat}(hk:k<s.aF.length):∃g c cur,V.aF=.slice (some ⟨g,0,none⟩) s.aF.length c/\aO<=g/\iV w g 48 cur/\
  w.cell? ⟨g,k*4,none⟩=some (.int .i64 (Wh.bH s.aF k).dh)/\w.cell? ⟨g,k*4+1,none⟩=some (.int .i64 (Wh.bH s.aF k).src)/\w.cell? ⟨g,k*4+2,none⟩=some (.int .i64 (Wh.bH s.aF k).dst)/\w.cell? ⟨g,k*4+3,none⟩=some (.int .i64 (Wh.bH s.aF k).n):=by
 obtain⟨g,c,cur,h1,h2,h3,h4⟩:=h.aF.at (λ_=>rfl) hk
 have e:s.aF[k]=Wh.bH s.aF k:=by simp[Wh.bH,hk]
 rw[e]at h4
 exact⟨g,c,cur,h1,h2,h3,h4 0 _ rfl,h4 1 _ rfl,h4 2 _ rfl,h4 3 _ rfl⟩
theorem aU(h:dK w aO V s){o:Nat}(ho:o<s.ak.length):∃g c cur,V.ak=.slice (some ⟨g,0,none⟩) s.ak.length c/\aO<=g/\iV w g 42 cur/\
  w.cell? ⟨g,o*2,none⟩=some (.int .i64 (s.aC o).dW)/\w.cell? ⟨g,o*2+1,none⟩=some (V.aG o):=by
 have hol:o<(zI s.ak V.aH).length:=by rw[uJ h.llen];exact ho
 obtain⟨g,c,cur,h1,h2,h3,h4⟩:=h.ak.at (λ_=>rfl) hol
 have e:(zI s.ak V.aH)[o]=((s.aC o).dW,V.aG o):=by
  have:=jbk h.llen ho;rw[bf hol]at this
  exact dQ this
 rw[e]at h4
 rw[uJ h.llen]at h1
 exact⟨g,c,cur,h1,h2,h3,h4 0 _ rfl,h4 1 _ rfl⟩
theorem gK(h:dK w aO V s){o k:Nat}(ho:o<s.ak.length)(hk:k<(s.aC o).aH.length):∃g c cur,V.aG o=.slice (some ⟨g,0,none⟩) (s.aC o).aH.length c/\aO<=g/\iV w g 44 cur/\
  w.cell? ⟨g,k*4,none⟩=some (.int .i64 (s.aG o k).dh)/\w.cell? ⟨g,k*4+1,none⟩=some (.int .i64 (s.aG o k).iw)/\w.cell? ⟨g,k*4+2,none⟩=some (.int .i64 (s.aG o k).oh)/\w.cell? ⟨g,k*4+3,none⟩=some (.int .i64 (s.aG o k).dP):=by
 obtain⟨g,c,cur,h1,h2,h3,h4⟩:=(h.aG o ho).at (λ_=>rfl) hk
 have e:(s.aC o).aH[k]=s.aG o k:=by unfold aJ.aG;simp[Wh.gK,hk]
 rw[e]at h4
 exact⟨g,c,cur,h1,h2,h3,h4 0 _ rfl,h4 1 _ rfl,h4 2 _ rfl,h4 3 _ rfl⟩
theorem Py(h:dK w aO V s){b g:Nat}(hb:b<s.on.length)(hg:g<(fO s.on b).length):∃go co PE gr cr cur,V.on=.slice (some ⟨go,0,none⟩) s.on.length co/\aO<=go/\iV w go 23 PE/\w.cell? ⟨go,b,none⟩=some (.slice (some ⟨gr,0,none⟩) (fO s.on b).length cr)/\
  V.row b=.slice (some ⟨gr,0,none⟩) (fO s.on b).length cr/\aO<=gr/\iV w gr 3 cur/\w.cell? ⟨gr,g,none⟩=some (.int .i64 (cell s.on b g)):=by
 have hbl:b<V.rows.length:=by rw[h.rlen];exact hb
 obtain⟨go,co,PE,h1,h2,h3,h4⟩:=h.on.at (λ_=>rfl) hbl
 obtain⟨gr,cr,cur,k1,k2,k3,k4⟩:=(h.row b hb).at (λ_=>rfl) hg
 have e:V.rows[b]=V.row b:=by unfold SV.row;simp[hbl]
 have h5:=h4 0 (V.row b) (by rw[e];rfl)
 have e2:(fO s.on b)[g]=cell s.on b g:=by unfold cell bI;simp[hg]
 have k5:=k4 0 (.int .i64 (cell s.on b g)) (by rw[e2];rfl)
 rw[nC,jB]at h5 k5
 rw[h.rlen]at h1
 rw[k1]at h5
 exact⟨go,co,PE,gr,cr,cur,h1,h2,h3,h5,k1,k2,k3,k5⟩
theorem BF{v:Value}{l:List Int}(h:Own jJ 1 3 w aO v l){g:Nat}(hg:g<l.length):∃gr c cur,v=.slice (some ⟨gr,0,none⟩) l.length c/\aO<=gr/\iV w gr 3 cur/\w.cell? ⟨gr,g,none⟩=some (.int .i64 (bI l g)):=by
 obtain⟨gr,c,cur,k1,k2,k3,k4⟩:=h.at (λ_=>rfl) hg
 have e2:l[g]=bI l g:=by unfold bI;simp[hg]
 have k5:=k4 0 (.int .i64 (bI l g)) (by rw[e2];rfl)
 rw[nC,jB]at k5
 exact⟨gr,c,cur,k1,k2,k3,k5⟩
end dK
end Wh
