/- Texts of the claim, joined. -/
import Derived.Deep.OwnRows
import Derived.Test.YtfhfkijmebhgmaaGreatR11
set_option maxHeartbeats 20000000
set_option maxRecDepth 100000
namespace Wh
open Go Go.RowKit Go.Shelf Go.Proofs Tryz
attribute [local go_sem] aT
def Jp(p:dA)(s:aJ)(b:Int)(k:Nat):Int:=(p.bin b.toNat).room - nH (λg=>(cell s.on b.toNat g+iq s b g)*bI p.aP g) k
theorem WT(p:dA)(s:aJ)(b:Int):Jp p s b p.aP.length=free p s b:=rfl
theorem jck(p:dA)(s:aJ)(b:Int)(k:Nat):Jp p s b (k+1)=Jp p s b k - (cell s.on b.toNat k+iq s b k)*bI p.aP k:=by
 unfold Jp;simp only[nH];omega
theorem O5{a b:Int}(ha:0<=a/\a<=1800)(hb:1<=b/\b<=9):0<=a*b/\a*b<=16200:=by
 refine⟨BM ha.1 (by omega),?_⟩
 calc a*b<=a*9:=Int.mul_le_mul_of_nonneg_left hb.2 ha.1
  _<=16200:=by omega
theorem VD{p:dA}{s:aJ}(hs:o9 p s){b:Int}(hb:0<=b/\b<p.bQ.length){k:Nat}(hk:k<p.aP.length):
  (0<=cell s.on b.toNat k+iq s b k/\cell s.on b.toNat k+iq s b k<=1800)/\(0<=(cell s.on b.toNat k+iq s b k)*bI p.aP k/\(cell s.on b.toNat k+iq s b k)*bI p.aP k<=16200):=by
 have h1:=hs.cell (b:=b.toNat) (g:=k) (by omega) hk
 have h2:=xC hs b k;have h3:0<=cell s.on b.toNat k+iq s b k/\cell s.on b.toNat k+iq s b k<=1800:=by omega
 exact⟨h3,O5 h3 (zH hs.plan hk)⟩
theorem RI{p:dA}{s:aJ}(hs:o9 p s){b:Int}(hb:0<=b/\b<p.bQ.length){k:Nat}(hk:k<=p.aP.length): -48600<=Jp p s b k/\Jp p s b k<=1000:=by
 have h1:=IE hs.plan (b:=b.toNat) (by omega)
 have h2:=Du (f:=λg:Nat=>(cell s.on b.toNat g+iq s b g)*bI p.aP g) (n:=k) (m:=16200) λg hg=>(VD hs hb (by omega)).2
 have hc:=hs.counts;unfold Jp dA.bin;omega
theorem jhk(w:World)(v vo:Value)(p:dA)(on:List (List Int))(b:Int)(hp:mW w w.heap.size v p)(ho:FW jJ w w.heap.size vo on)(hz:iO p on=0)(hb:0<=b/\b<p.bQ.length):
  Calls prog 157 #[v,vo,.int .i64 b] w λe w'=>e=.returned (.int .i64 (LJ p on b.toNat))/\Below w.heap.size w w':=by
 have:=jkj w v vo p on b.toNat hp ho hz (by omega)
 rwa [show((b.toNat:Nat):Int)=b by omega]at this
theorem jlL(w:World)(v:Value)(p:dA)(s:aJ)(b g:Int)(hv:lK w w.heap.size v s)(hs:o9 p s)(hb:0<=b/\b<p.bQ.length)(hg:0<=g/\g<p.aP.length):
  Calls prog 80 #[v,.int .i64 b,.int .i64 g] w λe w'=>e=.returned (.int .i64 (lU s b g))/\Below w.heap.size w w':=by
 have hb1:0<=b:=hb.1;have hb2:b<(s.on.length:Int):=by rw[hs.tY];exact hb.2
 have hg1:0<=g:=hg.1;have hbl:b.toNat<s.on.length:=by omega
 have hgl:g.toNat<(fO s.on b.toNat).length:=by rw[hs.rowLen (by omega)];omega
 have hg2:g<((fO s.on b.toNat).length:Int):=by omega
 have hcr:=hs.cell (b:=b.toNat) (g:=g.toNat) (by omega) (by omega)
 have hbr:=EY hs b g;have zy:=ah hs;clear hs hb hg;obtain⟨A0,c0,A1,c1,A2,c2,A3,c3,A4,c4,A5,c5,A6,c6,rfl,hV,hN,hO,hH,hM,hI,hU,hX,hl0,hl1,hl2,hl3,hl4,hl5,JA⟩:=oW hv;go_enter func80,ntmps80
 go_wp2_with fail;obtain⟨W0,hW0,hb0,lg,uZ,hsE,hK⟩:=Lp w s A0 c0 A1 c1 A2 c2 A3 c3 A4 c4 A5 c5 A6 c6;rw[hW0];clear hW0;obtain⟨Ar,cr,or0,TQ,Yx,vS⟩:=(hN.O W0 hb0).row hbl;obtain⟨or1,lr1,QW⟩:=vS.at_.int hgl;have hcl:bI (fO s.on b.toNat) g.toNat=cell s.on b.toNat g.toNat:=rfl;rw[hcl]at QW
 clear hcl;obtain⟨_,x0,x1,x2,x3,x4,x5,x6,_⟩:=hK.O W0 (aj _ _);have q1:=λo d os=>bY (w:=W0) (b:=w.heap.size) lg o d os
 have q2:=λo d os=>bY (w:=W0) (b:=jd A0) TQ o d os
 have q3:=λo d os=>bY (w:=W0) (b:=jd Ar) lr1 o d os
 have hV2:=ah (λd os=>hV.O _ (hb0.trans ((kW W0 d os).mono hb0.size)))
 have hw1:IntKind.i64.wrap (cell s.on b.toNat g.toNat - bound s b g)=cell s.on b.toNat g.toNat - bound s b g:=aN _ (by omega)
 go_wp2_with fail;refine dG (by kernel_rfl) (by kernel_rfl) ?_
 repeat(go_big_quiet_step ((go_at_call 62;refine gI (Zt _ _ p s _ _ (hV2.O _ _) zy.O))))
 refine wpQuiet_nil ?_
 intro W2 hw';have hb2:=dD hw';clear hw';go_wp2_with fail;go_ret
 exact⟨iF rfl,hb0.trans (hb2.mono hb0.size)⟩
theorem jbe(w:World)(v:Value)(p:dA)(s:aJ)(b g:Int)(hv:lK w w.heap.size v s)(hs:o9 p s)(hb:0<=b/\b<p.bQ.length)(hg:0<=g/\g<p.aP.length):
  Calls prog 109 #[v,.int .i64 b,.int .i64 g] w λe w'=>e=.returned (.int .i64 (lU s b g))/\Below w.heap.size w w':=by
 have hb1:0<=b:=hb.1;have hb2:b<(s.on.length:Int):=by rw[hs.tY];exact hb.2
 have hg1:0<=g:=hg.1;have hbl:b.toNat<s.on.length:=by omega
 have hgl:g.toNat<(fO s.on b.toNat).length:=by rw[hs.rowLen (by omega)];omega
 have hg2:g<((fO s.on b.toNat).length:Int):=by omega
 have hcr:=hs.cell (b:=b.toNat) (g:=g.toNat) (by omega) (by omega)
 have hbr:=EY hs b g;have zy:=ah hs;clear hs hb hg;obtain⟨A0,c0,A1,c1,A2,c2,A3,c3,A4,c4,A5,c5,A6,c6,rfl,hV,hN,hO,hH,hM,hI,hU,hX,hl0,hl1,hl2,hl3,hl4,hl5,JA⟩:=oW hv;go_enter func109,ntmps109
 go_wp2_with fail;obtain⟨W0,hW0,hb0,lg,uZ,hsE,hK⟩:=Lp w s A0 c0 A1 c1 A2 c2 A3 c3 A4 c4 A5 c5 A6 c6;rw[hW0];clear hW0;obtain⟨Ar,cr,or0,TQ,Yx,vS⟩:=(hN.O W0 hb0).row hbl;obtain⟨or1,lr1,QW⟩:=vS.at_.int hgl;have hcl:bI (fO s.on b.toNat) g.toNat=cell s.on b.toNat g.toNat:=rfl;rw[hcl]at QW
 clear hcl;obtain⟨_,x0,x1,x2,x3,x4,x5,x6,_⟩:=hK.O W0 (aj _ _);have q1:=λo d os=>bY (w:=W0) (b:=w.heap.size) lg o d os
 have q2:=λo d os=>bY (w:=W0) (b:=jd A0) TQ o d os
 have q3:=λo d os=>bY (w:=W0) (b:=jd Ar) lr1 o d os
 have hV2:=ah (λd os=>hV.O _ (hb0.trans ((kW W0 d os).mono hb0.size)))
 have hw1:IntKind.i64.wrap (cell s.on b.toNat g.toNat - bound s b g)=cell s.on b.toNat g.toNat - bound s b g:=aN _ (by omega)
 go_wp2_with fail;refine dG (by kernel_rfl) (by kernel_rfl) ?_
 repeat(go_big_quiet_step ((go_at_call 70;refine gI (ZA _ _ p s _ _ (hV2.O _ _) zy.O))))
 refine wpQuiet_nil ?_
 intro W2 hw';have hb2:=dD hw';clear hw';go_wp2_with fail;go_ret
 exact⟨iF rfl,hb0.trans (hb2.mono hb0.size)⟩
theorem jhc(w:World)(v vs:Value)(p:dA)(s:aJ)(b:Int)(hp:mW w w.heap.size v p)(hv:lK w w.heap.size vs s)(hs:o9 p s)(hb:0<=b/\b<p.bQ.length):
  Calls prog 93 #[v,vs,.int .i64 b] w λe w'=>e=.returned (.int .i64 (free p s b))/\Below w.heap.size w w':=by
 have hbb:=ah hb;have hb1:0<=b:=hb.1;have hb2:b<(s.on.length:Int):=by rw[hs.tY];exact hb.2
 have hb3:b<(p.bQ.length:Int):=hb.2;have hbl:b.toNat<s.on.length:=by omega
 have jgf:b.toNat<p.bQ.length:=by omega
 have hcnt:=hs.counts;have zy:=ah hs;clear hs hb;obtain⟨Ab,cb,As,cs,rfl,hP',hBn,hSz,hlb,hls⟩:=sN hp;obtain⟨A0,c0,A1,c1,A2,c2,A3,c3,A4,c4,A5,c5,A6,c6,rfl,hV,hN,hO,hH,hM,hI,hU,hX,hl0,hl1,hl2,hl3,hl4,hl5,JA⟩:=oW hv;obtain⟨ok0,lk0,k0,k1,k2,k3⟩:=(hBn.O w (aj _ _)).at_.bin jgf;go_enter func93,ntmps93
 go_wp2_with fail;obtain⟨W0,hW0,hb0,lg,uZ,hsE,hK⟩:=Eh w p s Ab cb As cs A0 c0 A1 c1 A2 c2 A3 c3 A4 c4 A5 c5 A6 c6;rw[hW0];clear hW0;obtain⟨⟨y0,y1⟩,x0,x1,x2,x3,x4,x5,x6,eP,eU⟩:=hK.O W0 (aj W0.heap.size W0);clear k0 k1 k2 k3;go_loopw[7,19,8,9] (λn i _ _ wr=>∃k:Nat,k<=p.aP.length/\i=.int .i64 k/\n=.int .i64 (Jp p s b k)/\Below W0.heap.size W0 wr) (λ_ i _ _ _=>p.aP.length - (RowKit.intOf i).toNat)
 case atStart=>exact⟨0,aK _,rfl,by unfold Jp dA.bin;simp[nH],aj _ _⟩
 case round=>
  clear y0 y1 x0 x1 x2 x3 x4 x5 x6 eP eU;obtain⟨k,hk,rfl,rfl,hbw⟩:=hrel;have hB:=hb0.trans (hbw.mono hb0.size);obtain⟨t1,t2⟩:=RI zy.O hbb.O hk;obtain⟨⟨y0,y1⟩,x0,x1,x2,x3,x4,x5,x6,eP,eU⟩:=hK.O wr (hbw);by_cases hlt:k<p.aP.length
  ·have hgl:k<(fO s.on b.toNat).length:=by rw[zy.O.rowLen jgf];exact hlt
   obtain⟨Ar,cr,or0,TQ,Yx,vS⟩:=(hN.O wr hB).row hbl;obtain⟨or1,lr1,QW⟩:=vS.at_.int hgl;obtain⟨os0,ls0,rs0⟩:=(hSz.O wr hB).at_.int hlt;have hcl:bI (fO s.on b.toNat) k=cell s.on b.toNat k:=rfl;rw[hcl]at QW
   clear hcl;obtain⟨⟨m1,m2⟩,m3,m4⟩:=VD zy.O hbb.O hlt;have q1:=λo d os=>bY (w:=wr) (b:=w.heap.size+1) eP o d os
   have q2:=λo d os=>bY (w:=wr) (b:=jd A0) TQ o d os
   have q3:=λo d os=>bY (w:=wr) (b:=jd Ar) lr1 o d os
   have hV2:=ah (λd os=>hV.O _ (hB.trans ((kW wr d os).mono hB.size)))
   have hsu:=ah (jck p s b k);have hw1:IntKind.i64.wrap (cell s.on b.toNat k+iq s b k)=cell s.on b.toNat k+iq s b k:=aN _ (by omega)
   have hw2:IntKind.i64.wrap ((cell s.on b.toNat k+iq s b k)*bI p.aP k)=(cell s.on b.toNat k+iq s b k)*bI p.aP k:=aN _ (by omega)
   have hw3:IntKind.i64.wrap (Jp p s b k - (cell s.on b.toNat k+iq s b k)*bI p.aP k)=Jp p s b k - (cell s.on b.toNat k+iq s b k)*bI p.aP k:=aN _ (by omega)
   go_wp2_with fail;refine dG (by kernel_rfl) (by kernel_rfl) ?_
   repeat(go_big_quiet_step ((go_at_call 94;refine gI (UM _ _ p s _ _ (hV2.O _ _) zy.O))))
   refine wpQuiet_nil ?_
   intro W2 hw';have hb2:=dD hw';clear hw';clear q1 q2 q3 hw1 hw2 hw3;go_wp2_with fail;go_roundw
   case rel=>exact⟨k+1,by omega,by go_num,by rw[hsu.O],hbw.trans (hb2.mono hbw.size)⟩
   case measure=>simp[RowKit.intOf];omega
  ·obtain rfl:k=p.aP.length:=by omega
   go_wp2_with fail;go_ret
   exact⟨iF (WT _ _ _),hB⟩
def En(p:dA)(s:aJ)(b:Int)(k:Nat):Int:=(p.bin b.toNat).room - LJ p s.on b.toNat - nH (λg=>iq s b g*bI p.aP g) k
theorem jam(p:dA)(s:aJ)(b:Int)(k:Nat):En p s b (k+1)=En p s b k - iq s b k*bI p.aP k:=by
 unfold En;simp only[nH];omega
theorem jfH(f g:Nat->Int)(n:Nat):nH (λk=>f k+g k) n=nH f n+nH g n:=by
 induction n with
 |zero=>rfl
 |succ n ih=>simp only[nH];rw[ih];omega
theorem jcl(p:dA)(s:aJ)(b:Int):En p s b p.aP.length=free p s b:=by
 unfold En free LJ;have:nH (λg=>(cell s.on b.toNat g+iq s b g)*bI p.aP g) p.aP.length=nH (λg=>cell s.on b.toNat g*bI p.aP g) p.aP.length+nH (λg=>iq s b g*bI p.aP g) p.aP.length:=by
  rw[<- jfH];exact zo λk _=>xW _ _ _
 rw[this];omega
theorem Xg{p:dA}{s:aJ}(hs:o9 p s)(b:Int){k:Nat}(hk:k<p.aP.length):0<=iq s b k*bI p.aP k/\iq s b k*bI p.aP k<=16200:=by
 have h2:=xC hs b k;exact O5 (by omega) (zH hs.plan hk)
theorem Yl{p:dA}{s:aJ}(hs:o9 p s){b:Nat}(hb:b<p.bQ.length):0<=LJ p s.on b/\LJ p s.on b<=5400:=by
 have hc:=hs.counts;have:=U9 hs.shelf (b:=b) (by rw[hs.tY];exact hb) (au p.aP.length)
 unfold LJ;omega
theorem X7{p:dA}{s:aJ}(hs:o9 p s){b:Int}(hb:0<=b/\b<p.bQ.length){k:Nat}(hk:k<=p.aP.length): -60000<=En p s b k/\En p s b k<=1000:=by
 have h1:=IE hs.plan (b:=b.toNat) (by omega)
 have h2:=Du (f:=λg:Nat=>iq s b g*bI p.aP g) (n:=k) (m:=16200) λg hg=>Xg hs b (by omega)
 have h3:=Yl hs (b:=b.toNat) (by omega)
 have hc:=hs.counts;unfold En dA.bin;omega
theorem Zz(w:World)(v vs:Value)(p:dA)(s:aJ)(b:Int)(hp:mW w w.heap.size v p)(hv:lK w w.heap.size vs s)(hs:o9 p s)(hb:0<=b/\b<p.bQ.length):
  Calls prog 106 #[v,vs,.int .i64 b] w λe w'=>e=.returned (.int .i64 (free p s b))/\Below w.heap.size w w':=by
 have hbb:=ah hb;have hb1:0<=b:=hb.1;have hb3:b<(p.bQ.length:Int):=hb.2;have jgf:b.toNat<p.bQ.length:=by omega
 have hcnt:=hs.counts;obtain⟨⟨rm1,rm2⟩,_⟩:=IE hs.plan jgf;obtain⟨us1,us2⟩:=Yl hs jgf;have zy:=ah hs;clear hs hb;obtain⟨Ab,cb,As,cs,rfl,hP',hBn,hSz,hlb,hls⟩:=sN hp;obtain⟨A0,c0,A1,c1,A2,c2,A3,c3,A4,c4,A5,c5,A6,c6,rfl,hV,hN,hO,hH,hM,hI,hU,hX,hl0,hl1,hl2,hl3,hl4,hl5,JA⟩:=oW hv;go_enter func106,ntmps106
 go_wp2_with fail;obtain⟨W0,hW0,hb0,lg,uZ,hsE,hK⟩:=Eh w p s Ab cb As cs A0 c0 A1 c1 A2 c2 A3 c3 A4 c4 A5 c5 A6 c6;rw[hW0];clear hW0;obtain⟨⟨y0,y1⟩,x0,x1,x2,x3,x4,x5,x6,eP,eU⟩:=hK.O W0 (aj W0.heap.size W0);obtain⟨ok0,lk0,k0,k1,k2,k3⟩:=(hBn.O W0 hb0).at_.bin jgf;clear k0 k2 k3;have q1:=λo d os=>bY (w:=W0) (b:=w.heap.size) eU o d os
 have q2:=λo d os=>bY (w:=W0) (b:=w.heap.size+1) eP o d os
 have q3:=λo d os=>bY (w:=W0) (b:=jd Ab) lk0 o d os
 have hP2:=ah (λd os=>hP'.O _ (hb0.trans ((kW W0 d os).mono hb0.size)))
 have hN2:=ah (λd os=>hN.O _ (hb0.trans ((kW W0 d os).mono hb0.size)))
 have hw1:IntKind.i64.wrap ((l9 p.bQ b.toNat).room - LJ p s.on b.toNat)=(l9 p.bQ b.toNat).room - LJ p s.on b.toNat:=aN _ (by omega)
 go_wp2_with fail;refine dG (by kernel_rfl) (by kernel_rfl) ?_
 repeat(go_big_quiet_step ((go_at_call 157;refine gI (jhk _ _ _ p s.on b (hP2.O _ _) (hN2.O _ _) zy.O.shelf hbb.O))))
 refine wpQuiet_nil ?_
 intro W9 hw';have Hq:=dD hw';clear hw';clear q1 q2 q3 hw1;clear y0 y1 x0 x1 x2 x3 x4 x5 x6 eP eU;obtain⟨⟨y0,y1⟩,x0,x1,x2,x3,x4,x5,x6,eP,eU⟩:=hK.O W9 (Hq);go_wp2_with fail;go_loopw[7,8] (λn i wr=>∃k:Nat,k<=p.aP.length/\i=.int .i64 k/\n=.int .i64 (En p s b k)/\Below W0.heap.size W0 wr) (λ_ i _=>p.aP.length - (RowKit.intOf i).toNat)
 case atStart=>exact⟨0,aK _,rfl,by unfold En dA.bin;simp[nH],Hq⟩
 case round=>
  clear y0 y1 x0 x1 x2 x3 x4 x5 x6 eP eU;clear k1;obtain⟨k,hk,rfl,rfl,hbw⟩:=hrel;have hB:=hb0.trans (hbw.mono hb0.size);obtain⟨t1,t2⟩:=X7 zy.O hbb.O hk;obtain⟨⟨y0,y1⟩,x0,x1,x2,x3,x4,x5,x6,eP,eU⟩:=hK.O wr (hbw);by_cases hlt:k<p.aP.length
  ·obtain⟨os0,ls0,rs0⟩:=(hSz.O wr hB).at_.int hlt;obtain⟨m3,m4⟩:=Xg zy.O b hlt;have q0:=λo d os=>bY (w:=wr) (b:=w.heap.size) eU o d os
   have q1:=λo d os=>bY (w:=wr) (b:=w.heap.size+1) eP o d os
   have q2:=λo d os=>bY (w:=wr) (b:=jd As) ls0 o d os
   have hV2:=ah (λd os=>hV.O _ (hB.trans ((kW wr d os).mono hB.size)))
   have hsu:=ah (jam p s b k);have hw2:IntKind.i64.wrap (iq s b k*bI p.aP k)=iq s b k*bI p.aP k:=aN _ (by omega)
   have hw3:IntKind.i64.wrap (En p s b k - iq s b k*bI p.aP k)=En p s b k - iq s b k*bI p.aP k:=aN _ (by omega)
   go_wp2_with fail;refine dG (by kernel_rfl) (by kernel_rfl) ?_
   repeat(go_big_quiet_step ((go_at_call 107;refine gI (LU _ _ p s _ _ (hV2.O _ _) zy.O))))
   refine wpQuiet_nil ?_
   intro W2 hw';have hb2:=dD hw';clear hw';clear q0 q1 q2 hw2 hw3;go_wp2_with fail;go_roundw
   case rel=>exact⟨k+1,by omega,by go_num,by rw[hsu.O],hbw.trans (hb2.mono hbw.size)⟩
   case measure=>simp[RowKit.intOf];omega
  ·obtain rfl:k=p.aP.length:=by omega
   go_wp2_with fail;go_ret
   exact⟨iF (jcl _ _ _),hB⟩
end Wh
namespace Wh
open Go Go.RowKit Go.Shelf Go.Proofs Tryz
attribute [local go_sem] aT jW jm kC
def dH:SV:=⟨mJ,mJ,mJ,mJ,mJ,mJ,mJ,[],[]⟩
theorem dK.zero(w:World)(aO:Nat):dK w aO dH jD:=
 ⟨Own.nil,rfl,(λb h=>by cases h),Own.nil,rfl,(λo h=>by cases h),Own.nil,Own.nil,Own.nil,Own.nil,Own.nil,by unfold D6 dH;simp[mJ,Value.ownBlock],List.Pairwise.nil⟩
theorem vG(W:World):jk (W.alloc (.cells #[.slice none 0 0,.slice none 0 0,.slice none 0 0,.slice none 0 0,.slice none 0 0,.slice none 0 0,.slice none 0 0] 31)) W.heap.size dH:=iV.new _ _ _
theorem qX{W w3:World}{o:Obj}(hg:(W.alloc o).grownBy w3 (some W.heap.size)):Below W.heap.size W w3:=((aj _ _).alloc (au _) _).grown hg (by simp) (λk hk=>by injection hk with hk;omega)
theorem dK.pushRow{w:World}{aO:Nat}{V:SV}{s:aJ}{w1 w2:World}(h:dK w aO V s)(hb:Below w.heap.size w w1){u:Value}{x:List Int}(hu:Own jJ 1 3 w1 aO u x)(hf:∀g,u.ownBlock=some g->w.heap.size<=g)(hg:w1.grownBy w2 V.on.ownBlock)
  {v':Value} (hv:Own (λu:Value=>[u]) 1 23 w2 aO v' (V.rows++[u])):dK w2 aO {V with on:=v',rows:=V.rows++[u]} {s with on:=s.on++[x]}:=by
 have k:=h.below hb;have hlt:∀a,a∈V.rows++[V.gY,V.O,V.bg]->∀g,a.ownBlock=some g->g<w.heap.size:=by
  intro a ha g hg;rcases jT.1 ha with ha|ha
  ·obtain⟨i,hi,rfl⟩:=aV ha;have hil:i<s.on.length:=by rw[<- h.rlen];exact hi
   have e1:V.row i=V.rows[i]:=by unfold SV.row;simp[hi]
   exact((h.row i hil).size g (by rw[e1];exact hg)).2
  ·simp only[jM,oK,ny]at ha
   rcases ha with rfl|rfl|rfl
   ·exact(h.gY.size g hg).2
   ·exact(h.O.size g hg).2
   ·exact(h.bg.size g hg).2
 refine⟨hv,by simp[h.rlen],λb hlt=>?_,k.ak.kept hg (k.ak.apart k.on (by decide)),k.llen,λo ho=>(k.aG o ho).kept hg ((k.aG o ho).apart k.on (by decide)),k.aA.kept hg (k.aA.apart k.on (by decide)),k.aF.kept hg (k.aF.apart k.on (by decide)),k.gY.kept hg (k.gY.apart k.on (by decide)),k.O.kept hg (k.O.apart k.on (by decide)),k.bg.kept hg (k.bg.apart k.on (by decide)),?_,k.yS⟩
 ·have hb':b<s.on.length+1:=by simpa using hlt
  by_cases hlt:b<s.on.length
  ·have e1:SV.row {V with on:=v',rows:=V.rows++[u]} b=V.row b:=by
    unfold SV.row;simp[fE (show b<V.rows.length by rw[h.rlen];exact hlt)]
   have e2:fO (s.on++[x]) b=fO s.on b:=by
    unfold fO;simp[fE hlt]
   rw[e1];show Own jJ 1 3 w2 aO (V.row b) (fO (s.on++[x]) b);rw[e2];exact(k.row b hlt).kept hg ((k.row b hlt).apart k.on (by decide))
  ·have hb2:b=s.on.length:=by omega
   have e1:SV.row {V with on:=v',rows:=V.rows++[u]} b=u:=by
    unfold SV.row;rw[hb2,<- h.rlen];simp
   have e2:fO (s.on++[x]) b=x:=by
    unfold fO;rw[hb2];simp
   rw[e1];show Own jJ 1 3 w2 aO u (fO (s.on++[x]) b);rw[e2];exact hu.kept hg (hu.apart k.on (by decide))
 ·show D6 (V.rows++[u]++[V.gY,V.O,V.bg]);have ha:=h.apart;unfold D6 at ha ⊢
  obtain⟨p1,p2,p3⟩:=lD.1 ha;rw[eH,lD];refine⟨p1,rJ.2 ⟨λb hb g hg he=>?_,p2⟩,λa ha b hb g hg he=>?_⟩
  ·have h1:=hlt b (List.mem_append_right _ hb) g he;have h2:=hf g hg;omega
  ·rcases jT.1 hb with hb|hb
   ·obtain rfl:=iP.1 hb;have h1:=hlt a (List.mem_append_left _ ha) g hg;have h2:=hf g he;omega
   ·exact p3 a ha b hb g hg he
theorem dK.one{w:World}{aO:Nat}{V:SV}{s:aJ}(h:dK w aO V s):V.cells.all (λu=>u.oneCell')=true:=by
 simp[SV.cells,qO h.on,qO h.ak,qO h.aA,qO h.aF,qO h.gY,qO h.O,qO h.bg]
theorem jdA(n:Nat):(madeCells #[Value.int .i64 0] n).toList=(List.replicate n (0:Int)).flatMap jJ:=by
 induction n with
 |zero=>simp[madeCells]
 |succ n ih=>
  rw[BP,gy,<- ih];unfold madeCells;rw[Array.range_succ];simp[jJ,Nat.mod_one]
theorem Own.Je(w:World)(n:Nat)(hn:n<=1000):Own jJ 1 3 (w.alloc (.cells (madeCells #[Value.int .i64 0] n) 3)) w.heap.size (.slice (some ⟨w.heap.size,0,none⟩) n n) (List.replicate n 0):=by
 have:=Own.lit (aO:=w.heap.size) (enc:=jJ) (size:=1) w 3 (madeCells #[Value.int .i64 0] n) (List.replicate n 0) (au _) (by simp;omega) (λ_=>rfl) (jdA n)
 simpa using this
theorem jeR(w:World)(B n cs:Nat)(As:Option Addr)(h1:w.cell? ⟨B,1,none⟩=some (.slice As n cs))(hn:n<=1000):
  Calls prog 150 #[.pointer (some ⟨B,0,none⟩)] w λe w'=>∃A c,e=.returned (.slice A n c)/\Own jJ 1 3 w' w.heap.size (.slice A n c) (List.replicate n 0)/\Below w.heap.size w w':=by
 have hmk:=run_make_row' (P:=prog) 23 3 (.int .i64 0) 8 underlying23 (by kernel_rfl) rfl .i64 .i64 n (by omega) (by omega)
 go_enter func150,ntmps150
 go_wp2_with fail;go_ret
 exact⟨_,_,rfl,Own.Je w n hn,(aj _ _).alloc (au _) _⟩
def Pq(p:dA)(k:Nat):aJ:=
 ⟨List.replicate k (List.replicate p.aP.length 0),[],[],[],List.replicate p.aP.length 0,List.replicate p.aP.length 0,List.replicate p.aP.length 0⟩
theorem jaB(p:dA)(k:Nat):Pq p (k+1)={Pq p k with on:=(Pq p k).on++[List.replicate p.aP.length 0]}:=by
 unfold Pq;simp[BP]
theorem dK.begun{w:World}{aO:Nat}{vi vu vx:Value}{z:List Int}(h1:Own jJ 1 3 w aO vi z)(h2:Own jJ 1 3 w aO vu z)(h3:Own jJ 1 3 w aO vx z)
  (h12:∀g,vi.ownBlock=some g->vu.ownBlock≠some g) (h13:∀g,vi.ownBlock=some g->vx.ownBlock≠some g) (h23:∀g,vu.ownBlock=some g->vx.ownBlock≠some g):
  dK w aO ⟨mJ,mJ,mJ,mJ,vi,vu,vx,[],[]⟩ ⟨[],[],[],[],z,z,z⟩:=
 ⟨Own.nil,rfl,(λb h=>by cases h),Own.nil,rfl,(λo h=>by cases h),Own.nil,Own.nil,h1,h2,h3,by
  unfold D6;refine rJ.2 ⟨λb hb=>?_,rJ.2 ⟨λb hb=>?_,rC _ _⟩⟩
  ·simp only[jM,oK,ny]at hb
   rcases hb with rfl|rfl
   ·exact h12
   ·exact h13
  ·obtain rfl:=iP.1 hb;exact h23,List.Pairwise.nil⟩
theorem jmL(w:World)(v:Value)(p:dA)(hp:mW w w.heap.size v p):
  Calls prog 88 #[v] w λe w'=>∃V,e=.returned (.tuple #[V.val,.int .i64 (gQ p)])/\dK w' w.heap.size V (if gQ p=0 then begin p else jD)/\Below w.heap.size w w':=by
 have hP:=hp;obtain⟨_,_,rfl,⟨Ab,cb,rfl,hlb,hb⟩,⟨As,cs,rfl,hls,hs⟩⟩:=hp;have hb0:Below w.heap.size w ((w.alloc (.cells #[.slice Ab p.bQ.length cb,.slice As p.aP.length cs] 25)).alloc (.cells #[.slice none 0 0,.slice none 0 0,.slice none 0 0,.slice none 0 0,.slice none 0 0,.slice none 0 0,.slice none 0 0] 31)):=((aj _ _).alloc (au _) _).alloc (by simp) _
 have lg:w.heap.size+1<((w.alloc (.cells #[.slice Ab p.bQ.length cb,.slice As p.aP.length cs] 25)).alloc (.cells #[.slice none 0 0,.slice none 0 0,.slice none 0 0,.slice none 0 0,.slice none 0 0,.slice none 0 0,.slice none 0 0] 31)).heap.size:=by simp
 have hk0:iV ((w.alloc (.cells #[.slice Ab p.bQ.length cb,.slice As p.aP.length cs] 25)).alloc (.cells #[.slice none 0 0,.slice none 0 0,.slice none 0 0,.slice none 0 0,.slice none 0 0,.slice none 0 0,.slice none 0 0] 31)) w.heap.size 25 [.slice Ab p.bQ.length cb,.slice As p.aP.length cs]:=(iV.new _ _ _).alloc _;have hk1:jk ((w.alloc (.cells #[.slice Ab p.bQ.length cb,.slice As p.aP.length cs] 25)).alloc (.cells #[.slice none 0 0,.slice none 0 0,.slice none 0 0,.slice none 0 0,.slice none 0 0,.slice none 0 0,.slice none 0 0] 31)) (w.heap.size+1) dH:=by
  have:=iV.new (w.alloc (.cells #[.slice Ab p.bQ.length cb,.slice As p.aP.length cs] 25)) 31 #[.slice none 0 0,.slice none 0 0,.slice none 0 0,.slice none 0 0,.slice none 0 0,.slice none 0 0,.slice none 0 0];rw[cO]at this
  exact this
 have hP':=ah (λW (hW:Below w.heap.size w W)=>hP.up hW hW.size)
 clear hb hs hP;go_enter func88,ntmps88
 go_wp2_with fail;generalize hW0:(w.alloc (.cells #[.slice Ab p.bQ.length cb,.slice As p.aP.length cs] 25)).alloc _=W0 at hb0 lg hk0 hk1 ⊢
 clear hW0;have hk0':=ah hk0;have jgb:=ah hk1;clear hk0 hk1;refine(OZ _ _ p (hP'.O _ hb0)).mono ?_
 rintro e W1 ⟨rfl,hb1⟩;have hB1:=hb0.trans (hb1.mono hb0.size);have hz1:=aI lg hb1.size;have hx1:=jgb.O.below hb1 lg;by_cases hz:gQ p=0
 ·obtain⟨_,hc6,_,hc3⟩:=pJ hz;rw[hz];have hz':=ah hz;clear hz;have hp1:=(hk0'.O.below hb1 (by omega)).cell (j:=1) rfl
  go_wp2_with fail;refine(jeR W1 w.heap.size _ _ _ hp1 (by omega)).mono ?_
  rintro e W2 ⟨E2,k2,rfl,ho2,hb2⟩;have BG:=hb1.trans (hb2.mono hb1.size);have hp2:=(hk0'.O.below BG (by omega)).cell (j:=1) rfl
  clear hp1;go_wp2_with fail;refine(jeR W2 w.heap.size _ _ _ hp2 (by omega)).mono ?_
  rintro e W3 ⟨E3,k3,rfl,ho3,hb3⟩;have Oe:=BG.trans (hb3.mono BG.size);have hp3:=(hk0'.O.below Oe (by omega)).cell (j:=1) rfl
  clear hp2;go_wp2_with fail;refine(jeR W3 w.heap.size _ _ _ hp3 (by omega)).mono ?_
  rintro e W4 ⟨E4,k4,rfl,Uw,hb4⟩;have jaj:=Oe.trans (hb4.mono Oe.size);clear hp3;have hO:=dK.begun ((ho2.below (hb3.trans (hb4.mono hb3.size))).from_ hb1.size) ((ho3.below hb4).from_ (BG).size) (Uw.from_ Oe.size)
   (λg h h'=>by have:=(ho2.size g h).2;have:=(ho3.size g h').1;omega) (λg h h'=>by have:=(ho2.size g h).2;have:=(Uw.size g h').1;have:=hb3.size;omega) (λg h h'=>by have:=(ho3.size g h).2;have:=(Uw.size g h').1;omega)
  have hone:=hO.one;have hO':=ah hO;clear hO ho2 ho3 Uw;have hnb:jk (W4.alloc (.cells #[.slice none 0 0,.slice none 0 0,.slice none 0 0,.slice none 0 0,.slice none 0 0,.slice none 0 0,.slice none 0 0] 31)) W4.heap.size dH:=iV.new _ _ _;go_wp2_with (refine dB (.tmp 6) (.tmp 20) dH ⟨mJ,mJ,mJ,mJ,.slice E2 p.aP.length k2,.slice E3 p.aP.length k3,.slice E4 p.aP.length k4,[],[]⟩ rfl hnb rfl hone (λw5 Jl hg5=>?_);refine aW ?_)
  unfold Hid;have hlb:W0.heap.size<=W4.heap.size:=jaj.size;have jeh:Below W0.heap.size W0 w5:=(jaj.alloc jaj.size _).grown hg5 (by have:=jaj.size;simp;omega) (λk hk=>by injection hk with hk;omega)
  have hO5:=(hO'.O.alloc (.cells #[.slice none 0 0,.slice none 0 0,.slice none 0 0,.slice none 0 0,.slice none 0 0,.slice none 0 0,.slice none 0 0] 31)).keptBy hg5 hnb.blk (by decide) (by decide) (by decide) (by decide) (by decide) (by decide)
  have jrT:=ah hO5;have QC:=ah Jl;have hpl0:=(hk0'.O.below jeh (by omega)).cell (j:=0) rfl
  clear hO5 Jl hO' hnb hg5 hone hb2 hb3 hb4 BG Oe jaj;generalize W4.heap.size=b at hlb QC ⊢
  go_wp2_with fail;go_loopw[24] (λi wr=>∃(k:Nat) (V:SV),k<=p.bQ.length/\i=.int .i64 k/\dK wr W0.heap.size V (Pq p k)/\jk wr b V/\Below W0.heap.size W0 wr) (λi _=>p.bQ.length - (RowKit.intOf i).toNat)
  case atStart=>exact⟨0,_,aK _,rfl,jrT.O,QC.O,jeh⟩
  case round=>
   clear hpl0 jrT QC jeh;obtain⟨k,V,hk,rfl,hOw,hbx,hbw⟩:=hrel;have H7:=ah hOw;have AZ:=ah hbx;have hB:=hb0.trans (hbw.mono hb0.size);have jb2:=hbx.lt;clear hOw hbx;by_cases hlt:k<p.bQ.length
   ·go_wp2_with fail;refine qZ 5 [
     λg _=>g 26=.pointer (some ⟨b,0,none⟩),λg _=>g 27=V.on,λg _=>g 28=.func (.func 150) #[] #[.pointer (some ⟨w.heap.size,0,none⟩)],λg w'=>(λv w'=>Own jJ 1 3 w' wr.heap.size v (List.replicate p.aP.length 0)) (g 29) w',λg w'=>(λv w'=>∃bb u,v=.slice (some ⟨bb,0,none⟩) 1 1/\w'.cell? ⟨bb,0,none⟩=some u/\bb<w'.heap.size/\Own jJ 1 3 w' wr.heap.size u (List.replicate p.aP.length 0)) (g 30) w'] (by kernel_rfl) (by kernel_rfl) rfl (by kernel_rfl) ?_ (λf w2 hb2 hR=>?_)
    simp only[bC,bV];refine dX.cons (iR.val rfl rfl (λg w' hb ho hd=>?_)) ?_
    ·have e1:=ho 6 rfl;go_simp
    refine dX.cons (iR.val rfl rfl (λg w' hb ho hd=>?_)) ?_
    ·have e1:g 26=.pointer (some ⟨b,0,none⟩):=hd ⟨0,.data⟩ (by simp) rfl (by decide)
     have x0:=(AZ.O.below hb jb2).cells.1;go_simp
    refine dX.cons (iR.val rfl rfl (λg w' hb ho hd=>?_)) ?_
    ·have e1:=ho 5 rfl;go_simp
    refine dX.cons (iR.one (d:=29) (p:=(λv w'=>Own jJ 1 3 w' wr.heap.size v (List.replicate p.aP.length 0))) rfl rfl (λv w1 w2 h hb=>h.below hb) (λg w' hb ho hd=>?_)) ?_
    ·have e1:g 28=.func (.func 150) #[] #[.pointer (some ⟨w.heap.size,0,none⟩)]:=hd ⟨2,.data⟩ (by simp) rfl (by decide)
     have hp1:=(hk0'.O.below (hbw.trans (hb.mono hbw.size)) (by omega)).cell (j:=1) rfl
     unfold iT;go_simp
     refine(jeR w' w.heap.size _ _ _ hp1 (by omega)).mono ?_
     rintro e w2 ⟨E,kc,rfl,ho2,hb2⟩;exact⟨_,rfl,ho2.from_ hb.size,hb2⟩
    refine dX.cons (iR.one (d:=30) (p:=(λv w'=>∃bb u,v=.slice (some ⟨bb,0,none⟩) 1 1/\w'.cell? ⟨bb,0,none⟩=some u/\bb<w'.heap.size/\Own jJ 1 3 w' wr.heap.size u (List.replicate p.aP.length 0))) rfl rfl (λv w1 w2 h hb=>?_) (λg w' hb ho hd=>?_)) ?_
    ·obtain⟨bb,u,h1,h2,h3,h4⟩:=h;exact⟨bb,u,h1,(hb.cell (p:=⟨bb,0,none⟩) h3).trans h2,aI h3 hb.size,h4.below hb⟩
    ·have e1:Own jJ 1 3 w' wr.heap.size (g 29) (List.replicate p.aP.length 0):=hd ⟨3,.data⟩ (by simp) rfl (by decide)
     obtain⟨E,kc,e2⟩:=e1.isSlice;have e1':=ah e1;clear e1;unfold iT;go_simp
     have e3:Own jJ 1 3 w' wr.heap.size (.slice E p.aP.length kc) (List.replicate p.aP.length 0):=by
      have:=e1'.O;rw[e2]at this
      simpa using this
     exact⟨e3.alloc _,(aj _ _).alloc (au _) _⟩
    exact dX.nil;obtain⟨r0,r1,r2,r3,⟨bb,u,r4,c4,l4,o4⟩,_⟩:=hR;simp only[kG,zB,bC,bV,eG,gW,eX,fF,fB,gV,bM,dF,dL,r0,r1,r2,r4];clear r0 r1 r2 r3 r4;have X4:=H7.O.below hb2;have huf:∀g,Value.ownBlock u=some g->wr.heap.size<=g:=λg hg=>(o4.size g hg).1
    refine lS _ rfl (.tmp 27) (.tmp 30) 26 23 rfl W0.heap.size _ 1 24 underlying26 Rw rfl (by decide) (by decide) V.on V.rows u rfl X4.on ⟨bb,0,none⟩ 1 rfl rfl (λj x hj=>by
     cases j with
     |zero=>simp only[oN,mZ]at hj;subst hj;exact c4
     |succ j=>simp at hj) (UR _ (qO o4)) (by rw[X4.rlen];simp[Pq];omega) (aY hbw.size hb2.size) ?_
    intro v7 w7 yM LC Tc ET;have X6:=H7.O.pushRow hb2 (o4.from_ hbw.size) huf LC yM;have FV:jk w7 b V:=(AZ.O.below hb2 jb2).grown LC (λhe=>by
     rcases X4.on.mQ (AZ.O.below hb2 jb2).blk (by decide)with h|h
     ·rw[h]at he;cases he
     ·exact h he.symm)
    have QA:Below W0.heap.size W0 w7:=(hbw.trans (hb2.mono hbw.size)).trans ET;have Xw:=X6.box FV 0 v7;have Jm:=FV.Yv v7;rw[<- jaB]at Xw
    have jaf:=QA.setCell (p:=⟨b,0,none⟩) hlb v7;obtain⟨Av,cv,hv7⟩:=yM.isSlice;simp only[aZ,dw,dY,eY]at hv7
    have jak:=ah Xw;have Oh:=ah Jm;have q1:=FV.cells.1;have qf:=FV.frozen 0;clear Xw Jm X6 FV yM LC Tc ET huf X4 o4 c4;subst hv7;go_wp2_with fail;go_roundw
    case rel=>exact⟨k+1,_,by omega,by go_num,jak.O,Oh.O,jaf⟩
    case measure=>simp[RowKit.intOf];omega
   ·obtain rfl:k=p.bQ.length:=by omega
    have hR1:=jgb.O.below hbw lg;obtain⟨b0,b1,b2,b3,b4,b5,b6⟩:=AZ.O.cells;have hone:=H7.O.one;go_wp2_with (refine dB (.tmp 2) (.tmp 34) dH V rfl hR1 rfl hone (λw9 dM je=>?_))
    have wC:=H7.O.keptBy je hR1.blk (by decide) (by decide) (by decide) (by decide) (by decide) (by decide)
    obtain⟨p0,p1,p2,p3,p4,p5,p6⟩:=dM.cells;have bK:Below w.heap.size w w9:=hB.grown je hB.size (λk hk=>by injection hk with hk;omega)
    have hsB:w.heap.size<=W0.heap.size:=hb0.size;clear b0 b1 b2 b3 b4 b5 b6;go_wp2_with fail;exact fD (v:=.tuple #[V.val,.int .i64 0]) (by simp[results,results88,go_sem,SV.val,p0,p1,p2,p3,p4,p5,p6]) rfl ⟨V,rfl,wC.from_ hsB,bK⟩
 ·have hne:(gQ p !=0)=true:=by simpa using hz
  go_wp2_with (refine dB (.tmp 2) (.tmp 11) dH dH rfl hx1 rfl rfl (λw9 dM je=>?_))
  obtain⟨p0,p1,p2,p3,p4,p5,p6⟩:=dM.cells;have bK:Below w.heap.size w w9:=hB1.grown je hB1.size (λk hk=>by injection hk with hk;omega)
  go_wp2_with fail;refine fD (v:=.tuple #[dH.val,.int .i64 (gQ p)]) (by simp[results,results88,go_sem,SV.val,p0,p1,p2,p3,p4,p5,p6]) rfl ⟨dH,rfl,?_,bK⟩
  exact dK.zero _ _
structure RB(w:World)(aO:Nat)(V:SV)(z:List Int)(k:Nat):Prop where
 on:Own (λu:Value=>[u]) 1 23 w aO V.on V.rows
 rlen:V.rows.length=k
 row:∀b,b<k->Own jJ 1 3 w aO (V.row b) z
 gY:Own jJ 1 3 w aO V.gY z
 O:Own jJ 1 3 w aO V.O z
 bg:Own jJ 1 3 w aO V.bg z
 YH:V.ak=mJ
 YG:V.aA=mJ
 VH:V.aF=mJ
namespace RB
variable {w w':World} {aO:Nat} {V:SV} {z:List Int} {k:Nat}
end RB
end Wh
namespace Wh
open Go Go.RowKit Go.Proofs Tryz
section
variable {α:Type} {enc:α→List Value} {size:Nat} {e:TypeId} {w:World} {aO:Nat} {v:Value} {l:List α}
theorem Own.at(h:Own enc size e w aO v l)(hk:∀x,(enc x).length=size){i:Nat}(hi:i<l.length):
  ∃g c cur,v=.slice (some ⟨g,0,none⟩) l.length c/\aO<=g/\iV w g e cur/\∀j u,(enc l[i])[j]?=some u->w.cell? ⟨g,i*size+j,none⟩=some u:=by
 obtain⟨g,c,cur,h1,h2,h3,h4,h5,h6,h7⟩:=h.row (by omega)
 refine⟨g,c,cur,h1,h2,h3,λj u hj=>h3.cell ?_⟩
 have hjs:j<size:=by
  have:=(eF.1 hj).1
  rwa [hk]at this
 have hf:=KZ enc size hk l i j l[i] (by simp[hi]) hjs
 rw[<- h7]at hf
 rw[<- hj,<- hf,gJ]
 rw[aB];calc i*size+j<i*size+size:=by omega
  _=(i+1)*size:=by rw[ku];omega
  _<=l.length*size:=mY _ (by omega)
end
theorem iV.ne{w:World}{g g':Nat}{e e':TypeId}{cur cur':List Value}(h:iV w g e cur)(h':iV w g' e' cur')(hne:e≠e'):g≠g':=by
 rintro rfl;unfold iV at h h'
 rw[h]at h'
 injection h' with h'
 injection h' with _ h3
 exact hne h3
theorem jk.off{w w':World}{b g:Nat}{V:SV}{e:TypeId}{cur:List Value}(h:jk w b V)(hg:w.grownBy w' (some g))(hb:iV w g e cur)(hne:e≠31):jk w' b V:=
 h.grown hg (by intro he;injection he with he;exact hb.ne h.blk hne he.symm)
namespace dK
variable {w w':World} {aO:Nat} {V:SV} {s:aJ}
theorem yR(h:dK w aO V s){k:Nat}(hk:k<s.aA.length):∃g c cur,V.aA=.slice (some ⟨g,0,none⟩) s.aA.length c/\aO<=g/\iV w g 46 cur/\
  w.cell? ⟨g,k*4,none⟩=some (.int .i64 (hold s.aA k).aC)/\w.cell? ⟨g,k*4+1,none⟩=some (.int .i64 (hold s.aA k).aG)/\w.cell? ⟨g,k*4+2,none⟩=some (.int .i64 (hold s.aA k).bin)/\w.cell? ⟨g,k*4+3,none⟩=some (.int .i64 (hold s.aA k).n):=by
 obtain⟨g,c,cur,h1,h2,h3,h4⟩:=h.aA.at (λ_=>rfl) hk
 have e:s.aA[k]=hold s.aA k:=by simp[hold,hk]
 rw[e]at h4
 exact⟨g,c,cur,h1,h2,h3,h4 0 _ rfl,h4 1 _ rfl,h4 2 _ rfl,h4 3 _ rfl⟩
theorem bH(h:dK w aO V s){k:Nat}(hk:k<s.aF.length):∃g c cur,V.aF=.slice (some ⟨g,0,none⟩) s.aF.length c/\aO<=g/\iV w g 48 cur/\
  w.cell? ⟨g,k*4,none⟩=some (.int .i64 (Wh.bH s.aF k).dh)/\w.cell? ⟨g,k*4+1,none⟩=some (.int .i64 (Wh.bH s.aF k).src)/\w.cell? ⟨g,k*4+2,none⟩=some (.int .i64 (Wh.bH s.aF k).dst)/\w.cell? ⟨g,k*4+3,none⟩=some (.int .i64 (Wh.bH s.aF k).n):=by
 obtain⟨g,c,cur,h1,h2,h3,h4⟩:=h.aF.at (λ_=>rfl) hk
 have e:s.aF[k]=Wh.bH s.aF k:=by simp[Wh.bH,hk]
 rw[e]at h4
 exact⟨g,c,cur,h1,h2,h3,h4 0 _ rfl,h4 1 _ rfl,h4 2 _ rfl,h4 3 _ rfl⟩
theorem aU(h:dK w aO V s){o:Nat}(ho:o<s.ak.length):∃g c cur,V.ak=.slice (some ⟨g,0,none⟩) s.ak.length c/\aO<=g/\iV w g 42 cur/\
  w.cell? ⟨g,o*2,none⟩=some (.int .i64 (s.aC o).dW)/\w.cell? ⟨g,o*2+1,none⟩=some (V.aG o):=by
 have hol:o<(zI s.ak V.aH).length:=by rw[uJ h.llen];exact ho
 obtain⟨g,c,cur,h1,h2,h3,h4⟩:=h.ak.at (λ_=>rfl) hol
 have e:(zI s.ak V.aH)[o]=((s.aC o).dW,V.aG o):=by
  have:=jbk h.llen ho;rw[bf hol]at this
  exact dQ this
 rw[e]at h4
 rw[uJ h.llen]at h1
 exact⟨g,c,cur,h1,h2,h3,h4 0 _ rfl,h4 1 _ rfl⟩
theorem gK(h:dK w aO V s){o k:Nat}(ho:o<s.ak.length)(hk:k<(s.aC o).aH.length):∃g c cur,V.aG o=.slice (some ⟨g,0,none⟩) (s.aC o).aH.length c/\aO<=g/\iV w g 44 cur/\
  w.cell? ⟨g,k*4,none⟩=some (.int .i64 (s.aG o k).dh)/\w.cell? ⟨g,k*4+1,none⟩=some (.int .i64 (s.aG o k).iw)/\w.cell? ⟨g,k*4+2,none⟩=some (.int .i64 (s.aG o k).oh)/\w.cell? ⟨g,k*4+3,none⟩=some (.int .i64 (s.aG o k).dP):=by
 obtain⟨g,c,cur,h1,h2,h3,h4⟩:=(h.aG o ho).at (λ_=>rfl) hk
 have e:(s.aC o).aH[k]=s.aG o k:=by unfold aJ.aG;simp[Wh.gK,hk]
 rw[e]at h4
 exact⟨g,c,cur,h1,h2,h3,h4 0 _ rfl,h4 1 _ rfl,h4 2 _ rfl,h4 3 _ rfl⟩
theorem Py(h:dK w aO V s){b g:Nat}(hb:b<s.on.length)(hg:g<(fO s.on b).length):∃go co PE gr cr cur,V.on=.slice (some ⟨go,0,none⟩) s.on.length co/\aO<=go/\iV w go 23 PE/\w.cell? ⟨go,b,none⟩=some (.slice (some ⟨gr,0,none⟩) (fO s.on b).length cr)/\
  V.row b=.slice (some ⟨gr,0,none⟩) (fO s.on b).length cr/\aO<=gr/\iV w gr 3 cur/\w.cell? ⟨gr,g,none⟩=some (.int .i64 (cell s.on b g)):=by
 have hbl:b<V.rows.length:=by rw[h.rlen];exact hb
 obtain⟨go,co,PE,h1,h2,h3,h4⟩:=h.on.at (λ_=>rfl) hbl
 obtain⟨gr,cr,cur,k1,k2,k3,k4⟩:=(h.row b hb).at (λ_=>rfl) hg
 have e:V.rows[b]=V.row b:=by unfold SV.row;simp[hbl]
 have h5:=h4 0 (V.row b) (by rw[e];rfl)
 have e2:(fO s.on b)[g]=cell s.on b g:=by unfold cell bI;simp[hg]
 have k5:=k4 0 (.int .i64 (cell s.on b g)) (by rw[e2];rfl)
 rw[nC,jB]at h5 k5
 rw[h.rlen]at h1
 rw[k1]at h5
 exact⟨go,co,PE,gr,cr,cur,h1,h2,h3,h5,k1,k2,k3,k5⟩
theorem BF{v:Value}{l:List Int}(h:Own jJ 1 3 w aO v l){g:Nat}(hg:g<l.length):∃gr c cur,v=.slice (some ⟨gr,0,none⟩) l.length c/\aO<=gr/\iV w gr 3 cur/\w.cell? ⟨gr,g,none⟩=some (.int .i64 (bI l g)):=by
 obtain⟨gr,c,cur,k1,k2,k3,k4⟩:=h.at (λ_=>rfl) hg
 have e2:l[g]=bI l g:=by unfold bI;simp[hg]
 have k5:=k4 0 (.int .i64 (bI l g)) (by rw[e2];rfl)
 rw[nC,jB]at k5
 exact⟨gr,c,cur,k1,k2,k3,k5⟩
end dK
end Wh
namespace Wh
open Go Go.RowKit Go.Shelf Go.Proofs Tryz
def nN(r:aJ×Int)(w:World)(e:Ending)(w':World):Prop:=∃V,e=.returned (.tuple #[V.val,.int .i64 r.2])/\dK w' w.heap.size V r.1/\Below w.heap.size w w'
theorem jQ{r:aJ×Int}{c:Int}{w w':World}(h:r=(jD,c))(hb:Below w.heap.size w w'):nN r w (.returned (.tuple #[dH.val,.int .i64 c])) w':=
 ⟨dH,by rw[h],by rw[h];exact dK.zero _ _,hb⟩
theorem EZ{r:aJ×Int}{s:aJ}{V:SV}{w w':World}(h:r=(s,0))(ho:dK w' w.heap.size V s)(hb:Below w.heap.size w w'):nN r w (.returned (.tuple #[V.val,.int .i64 0])) w':=
 ⟨V,by rw[h],by rw[h];exact ho,hb⟩
theorem vC{ops:Array Oper}{rest:List Oper}{o:Oper}{a:Act}{w:World}{Q:Exit->Act->World->Prop}(hgd:o.guard=none)(x y:Operand)(ho:o.op=.store 3 x y)(hn:o.dst=none)(b off:Nat)(u:Value)(q:Int)
  (hx:a.eval x=.pointer (some ⟨b,off,none⟩)) (hy:a.eval y=.int .i64 q) (hc:w.cell? ⟨b,off,none⟩=some u) (hf:w.frozen? ⟨b,off,none⟩=false)
  (h:∀w',w.setCell ⟨b,off,none⟩ (.int .i64 q)=w'->wpList prog ops Q rest a w'):wpList prog ops Q (o::rest) a w:=
 jv hgd λK hK=>by
  unfold Oper.wp;simp only[execOp,ho,hx,hy];go_simp
  exact hK _ _ (h _ rfl)
end Wh
namespace Wh
open Go Go.RowKit Go.Shelf Go.Proofs Tryz
attribute [local go_sem] aT
section
variable {p:dA} {s:aJ} {b g n:Int}
theorem TK(h:aQ p s≠0):rF p s b g n=(jD,aQ p s):=by unfold rF;rw[aB h]
theorem BJ(h:aQ p s=0)(h2:(lV p b&&iK p g&&cZ n 1 200)=false):rF p s b g n=(jD,3):=by
 unfold rF;rw[ay (λhn=>hn h),h2];rfl
theorem Q5(h:aQ p s=0)(h2:(lV p b&&iK p g&&cZ n 1 200)=true)(h3:free p s b<n*bI p.aP g.toNat):rF p s b g n=(jD,5):=by
 unfold rF;rw[ay (λhn=>hn h),h2,ay (by simp),aB h3]
theorem Io(h:aQ p s=0)(h2:(lV p b&&iK p g&&cZ n 1 200)=true)(h3:n*bI p.aP g.toNat<=free p s b)(h4:200<cell s.on b.toNat g.toNat+iq s b g+n\/1048576<bI s.gY g.toNat+n):rF p s b g n=(jD,2):=by
 unfold rF;rw[ay (λhn=>hn h),h2,ay (by simp),ay (by omega),aB h4]
theorem Vw(h:aQ p s=0)(h2:(lV p b&&iK p g&&cZ n 1 200)=true)(h3:n*bI p.aP g.toNat<=free p s b)(h4:cell s.on b.toNat g.toNat+iq s b g+n<=200)(h5:bI s.gY g.toNat+n<=1048576):
  rF p s b g n=({s with on:=setCell s.on b.toNat g.toNat (cell s.on b.toNat g.toNat+n),gY:=s.gY.set g.toNat (bI s.gY g.toNat+n)},0):=by
 unfold rF;rw[ay (λhn=>hn h),h2,ay (by simp),ay (by omega),ay (by omega)]
end
theorem ja9(w:World)(v vs:Value)(p:dA)(s:aJ)(b g n:Int)(hp:mW w w.heap.size v p)(hv:lK w w.heap.size vs s):
  Calls prog 44 #[v,vs,.int .i64 b,.int .i64 g,.int .i64 n] w (nN (rF p s b g n) w):=by
 obtain⟨Ab,cb,As,cs,rfl,hP',hBn,hSz,hlb,hls⟩:=sN hp;obtain⟨A0,c0,A1,c1,A2,c2,A3,c3,A4,c4,A5,c5,A6,c6,rfl,hV,hN,hO,hH,hM,hI,hU,hX,hl0,hl1,hl2,hl3,hl4,hl5,JA⟩:=oW hv;go_enter func44,ntmps44
 go_wp2_with fail;obtain⟨W0,hW0,hb0,lg,uZ,hsE,hK,hR⟩:=yD w p s Ab cb As cs A0 c0 A1 c1 A2 c2 A3 c3 A4 c4 A5 c5 A6 c6;rw[hW0];clear hW0;obtain⟨⟨y0,y1⟩,x0,x1,x2,x3,x4,x5,x6,eP,eU⟩:=hK.O W0 (aj W0.heap.size W0);go_wp2_with fail;clear y0 y1 x0 x1 x2 x3 x4 x5 x6 eP eU;refine(Nz _ _ _ p s (hP'.O _ hb0) (hV.O _ hb0)).mono ?_
 rintro e W1 ⟨rfl,h1⟩;have hB1:=hb0.trans (h1.mono hb0.size);obtain⟨⟨y0,y1⟩,x0,x1,x2,x3,x4,x5,x6,eP,eU⟩:=hK.O W1 (h1);by_cases hc:aQ p s=0
 ·have hc':=ah hc;have hsn:=ah (kM.1 hc).1;rw[hc];clear hc;go_wp2_with fail;clear y0 y1 x0 x1 x2 x3 x4 x5 x6 eP eU;refine(JI _ _ p b g (hP'.O _ hB1)).mono ?_
  rintro e W2 ⟨rfl,h2⟩;have h02:=h1.trans (h2.mono h1.size);have hB2:=hb0.trans (h02.mono hb0.size);obtain⟨⟨y0,y1⟩,x0,x1,x2,x3,x4,x5,x6,eP,eU⟩:=hK.O W2 (h02);cases hth:(lV p b&&iK p g)
  ·have bK:=ah (BJ (n:=n) hc'.O (by rw[hth];rfl))
   clear hth;have fH:=hR.O _ h02;go_wp2_with (refine dB (.tmp 10) (.tmp 31) dH dH rfl fH rfl rfl (λw9 dM je=>?_))
   have dN:=Below.gB hB2 je;go_wp2_with fail;exact jo results44 dM rfl rfl (jQ bK.O dN)
  ·have ZY:=ah hth;rw[bG]at hth
   have hbb:=ah (yT.1 hth.1);have hgg:=ah (vN.1 hth.2);clear hth;by_cases hn1:1<=n
   ·by_cases hn2:n<=200
    ·have kE:=ah (show(lV p b&&iK p g&&cZ n 1 200)=true by rw[ZY.O,dV.2 ⟨hn1,hn2⟩];rfl)
     have hb1:0<=b:=hbb.O.1;have hb2:b<(s.on.length:Int):=by rw[hsn.O.tY];exact hbb.O.2
     have hg1:0<=g:=hgg.O.1;have hg2:g<(p.aP.length:Int):=hgg.O.2;have hbl:b.toNat<s.on.length:=by omega
     have hgs:g.toNat<p.aP.length:=by omega
     have hgl:g.toNat<(fO s.on b.toNat).length:=by rw[hsn.O.rowLen (by have:=hbb.O;omega)];omega
     have hgr:g<((fO s.on b.toNat).length:Int):=by omega
     have hgi:g<(s.gY.length:Int):=by rw[hsn.O.gY.1];omega
     obtain⟨z1,z2⟩:=zH hsn.O.plan hgs;have hm1:=O5 (a:=n) (b:=bI p.aP g.toNat) (by omega) ⟨z1,z2⟩
     have hw1:IntKind.i64.wrap (n*bI p.aP g.toNat)=n*bI p.aP g.toNat:=aN _ (by omega)
     obtain⟨os0,ls0,rs0⟩:=(hSz.O W2 hB2).at_.int hgs;have q0:=λo d os=>bY (w:=W2) (b:=w.heap.size) eU o d os
     have q1:=λo d os=>bY (w:=W2) (b:=w.heap.size+1) eP o d os
     have q2:=λo d os=>bY (w:=W2) (b:=jd As) ls0 o d os
     have hP2:=ah (λd os=>hP'.O _ (hB2.trans ((kW W2 d os).mono hB2.size)))
     have hV2:=ah (λd os=>hV.O _ (hB2.trans ((kW W2 d os).mono hB2.size)))
     by_cases hfu:free p s b<n*bI p.aP g.toNat
     ·have bK:=ah (Q5 (n:=n) hc'.O kE.O hfu);go_wp2_with fail;refine dG (by kernel_rfl) (by kernel_rfl) ?_
      repeat(go_big_quiet_step ((go_at_call 93;refine gI (jhc _ _ _ p s b (hP2.O _ _) (hV2.O _ _) hsn.O hbb.O))))
      refine wpQuiet_nil ?_
      intro W3 hw';have hb3:=dD hw';clear hw';have h03:=h02.trans (hb3.mono h02.size);have hB3:=hb0.trans (h03.mono hb0.size);have fH:=hR.O _ h03;go_wp2_with (refine dB (.tmp 10) (.tmp 45) dH dH rfl fH rfl rfl (λw9 dM je=>?_))
      have dN:=Below.gB hB3 je;go_wp2_with fail;exact jo results44 dM rfl rfl (jQ bK.O dN)
     ·have jd3:n*bI p.aP g.toNat<=free p s b:=by omega
      go_wp2_with fail;refine dG (by kernel_rfl) (by kernel_rfl) ?_
      repeat(go_big_quiet_step ((go_at_call 93;refine gI (jhc _ _ _ p s b (hP2.O _ _) (hV2.O _ _) hsn.O hbb.O))))
      refine wpQuiet_nil ?_
      intro W3 hw';have hb3:=dD hw';clear hw';have h03:=h02.trans (hb3.mono h02.size);have hB3:=hb0.trans (h03.mono hb0.size);clear q0 q1 q2 hP2 hV2 hw1 rs0 os0 ls0;clear y0 y1 x0 x1 x2 x3 x4 x5 x6 eP eU;obtain⟨⟨y0,y1⟩,x0,x1,x2,x3,x4,x5,x6,eP,eU⟩:=hK.O W3 (h03);obtain⟨Ar,cr,or0,TQ,Yx,vS⟩:=(hN.O W3 hB3).row hbl;obtain⟨or1,lr1,QW⟩:=vS.at_.int hgl;obtain⟨oi,li,ri⟩:=(hI.O W3 hB3).at_.int (i:=g.toNat) (by omega)
      have hcl:bI (fO s.on b.toNat) g.toNat=cell s.on b.toNat g.toNat:=rfl;rw[hcl]at QW
      clear hcl;have t1:=hsn.O.cell (b:=b.toNat) (g:=g.toNat) (by have:=hbb.O;omega) hgs
      have t2:=xC hsn.O b g;have t3:=hsn.O.gY.2 hgs;have hw1:IntKind.i64.wrap (cell s.on b.toNat g.toNat+iq s b g)=cell s.on b.toNat g.toNat+iq s b g:=aN _ (by omega)
      have hw2:IntKind.i64.wrap (cell s.on b.toNat g.toNat+iq s b g+n)=cell s.on b.toNat g.toNat+iq s b g+n:=aN _ (by omega)
      have hw3:IntKind.i64.wrap (bI s.gY g.toNat+n)=bI s.gY g.toNat+n:=aN _ (by omega)
      have q1:=λo d os=>bY (w:=W3) (b:=w.heap.size+1) eP o d os
      have q2:=λo d os=>bY (w:=W3) (b:=jd A0) TQ o d os
      have q3:=λo d os=>bY (w:=W3) (b:=jd Ar) lr1 o d os
      have hV2:=ah (λd os=>hV.O _ (hB3.trans ((kW W3 d os).mono hB3.size)))
      by_cases hm:200<cell s.on b.toNat g.toNat+iq s b g+n
      ·have bK:=ah (Io (n:=n) hc'.O kE.O jd3 (.inl hm));go_wp2_with fail;refine dG (by kernel_rfl) (by kernel_rfl) ?_
       repeat(go_big_quiet_step ((go_at_call 94;refine gI (UM _ _ p s b g (hV2.O _ _) hsn.O))))
       refine wpQuiet_nil ?_
       intro W4 hw';have hb4:=dD hw';clear hw';have h04:=h03.trans (hb4.mono h03.size);have hB4:=hb0.trans (h04.mono hb0.size);have fH:=hR.O _ h04;go_wp2_with (refine dB (.tmp 10) (.tmp 71) dH dH rfl fH rfl rfl (λw9 dM je=>?_))
       have dN:=Below.gB hB4 je;go_wp2_with fail;exact jo results44 dM rfl rfl (jQ bK.O dN)
      ·have hm':cell s.on b.toNat g.toNat+iq s b g+n<=200:=by omega
       go_wp2_with fail;refine dG (by kernel_rfl) (by kernel_rfl) ?_
       repeat(go_big_quiet_step ((go_at_call 94;refine gI (UM _ _ p s b g (hV2.O _ _) hsn.O))))
       refine wpQuiet_nil ?_
       intro W4 hw';have hb4:=dD hw';clear hw';have h04:=h03.trans (hb4.mono h03.size);have hB4:=hb0.trans (h04.mono hb0.size);clear q1 q2 q3 hV2 hw1 hw2;clear y0 y1 x0 x1 x2 x3 x4 x5 x6 eP eU;obtain⟨⟨y0,y1⟩,x0,x1,x2,x3,x4,x5,x6,eP,eU⟩:=hK.O W4 (h04);have ri4:=(hb4.cell (p:=⟨jd A4,ou A4+g.toNat,none⟩) li).trans ri;clear Yx QW ri hm;by_cases hi:1048576<bI s.gY g.toNat+n
       ·have bK:=ah (Io (n:=n) hc'.O kE.O jd3 (.inr hi));have fH:=hR.O _ h04;go_wp2_with (refine dB (.tmp 10) (.tmp 71) dH dH rfl fH rfl rfl (λw9 dM je=>?_))
        have dN:=Below.gB hB4 je;go_wp2_with fail;exact jo results44 dM rfl rfl (jQ bK.O dN)
       ·have hi':bI s.gY g.toNat+n<=1048576:=by omega
        have bK:=ah (Vw (n:=n) hc'.O kE.O jd3 hm' hi');go_wp2_with fail;clear y0 y1 x0 x1 x2 x3 x4 x5 x6 eP eU;clear ri4 hi;refine(ja1 _ _ p s (hV.O _ hB4) hsn.O).mono ?_
        rintro e W5 ⟨_,rfl,⟨V5,rfl,AY⟩,h5⟩;have pq:=(AY).one;have xw:=vG (W5);go_wp2_with (refine dB (.tmp 13) (.tmp 73) dH V5 rfl xw rfl pq (λw6 lM Ib=>?_);refine aW ?_)
        unfold Hid;have sG:=qX Ib;have vT:=lM.lt;clear pq xw Ib;have ho6:=AY.below sG;have h06:=h04.trans ((h5.trans (sG.mono h5.size)).mono h04.size);have Sm:=hb0.trans (h06.mono hb0.size);have jd1:w.heap.size<=W4.heap.size:=hB4.size;have jbY:W0.heap.size<=W4.heap.size:=h04.size;obtain⟨go,co,PE,gr,cr2,cur,e1,f1,f2,f3,e2,f4,f5,f6⟩:=ho6.Py hbl hgl;have hx0:=lM.cells.1;rw[e1]at hx0
        have hf:=f5.frozen g.toNat;have hst:=ho6.Yv hbl hgl e2 (cell s.on b.toNat g.toNat+n);have DR:=lM.off hst.2 f5 (by decide)
        have hw4:IntKind.i64.wrap (cell s.on b.toNat g.toNat+n)=cell s.on b.toNat g.toNat+n:=aN _ (by omega)
        have h07:=h06.setCell (p:=⟨gr,g.toNat,none⟩) (aY jbY f4) (.int .i64 (cell s.on b.toNat g.toNat+n));have YW:=Sm.setCell (p:=⟨gr,g.toNat,none⟩) (aY jd1 f4) (.int .i64 (cell s.on b.toNat g.toNat+n));go_wp2_with (refine vC rfl (.tmp 84) (.tmp 83) rfl rfl gr g.toNat _ _ rfl rfl f6 hf (λw7 hw7=>?_);refine aW ?_)
        unfold Hid;rw[hw7]at hst DR h07 YW
        clear hw7 hw4 hx0 hf f2 f3 f5 f6 e1 e2 ho6 lM;have Ia:dK w7 W4.heap.size V5 {s with on:=setCell s.on b.toNat g.toNat (cell s.on b.toNat g.toNat+n)}:=hst.1
        have jiG:g.toNat<s.gY.length:=by omega
        obtain⟨gi,ci,juK,e3,k1,k2,k3⟩:=dK.BF (l:=s.gY) Ia.gY jiG;have hx4:=DR.cells.2.2.2.2.1;rw[e3]at hx4
        have hfi:=k2.frozen g.toNat;have hst2:=Ia.jg8 jiG e3 (bI s.gY g.toNat+n);have KW:=DR.off hst2.2 k2 (by decide)
        have DY:=h07.setCell (p:=⟨gi,g.toNat,none⟩) (aY jbY k1) (.int .i64 (bI s.gY g.toNat+n));have Uz:=YW.setCell (p:=⟨gi,g.toNat,none⟩) (aY jd1 k1) (.int .i64 (bI s.gY g.toNat+n));go_wp2_with (refine vC rfl (.tmp 92) (.tmp 91) rfl rfl gi g.toNat _ _ rfl rfl k3 hfi (λw8 hw8=>?_);refine aW ?_)
        unfold Hid;rw[hw8]at hst2 KW DY Uz
        clear hw8 hx4 hfi k2 k3 e3;have ho8:dK w8 W4.heap.size V5 {s with on:=setCell s.on b.toNat g.toNat (cell s.on b.toNat g.toNat+n),gY:=s.gY.set g.toNat (bI s.gY g.toNat+n)}:=hst2.1
        have jip:=ah ho8;have jea:=ah KW;clear hst hst2 Ia ho8 DR KW AY;have fH:=hR.O _ DY;obtain⟨b0,b1,b2,b3,b4,b5,b6⟩:=jk.cells jea.O;have lG:=dK.one jip.O;go_wp2_with (refine dB (.tmp 10) (.tmp 93) dH V5 rfl fH rfl lG (λw9 dM je=>?_))
        have wC:=dK.keptBy jip.O je fH (by decide) (by decide) (by decide) (by decide) (by decide) (by decide)
        have dN:=Below.gB Uz je;clear b0 b1 b2 b3 b4 b5 b6;go_wp2_with fail;exact jo results44 dM rfl rfl (EZ bK.O (wC.from_ jd1) dN)
    ·have bK:=ah (BJ (n:=n) hc'.O (by rw[ZY.O,show cZ n 1 200=false from nU.2 (by omega)];rfl))
     have fH:=hR.O _ h02;go_wp2_with (refine dB (.tmp 10) (.tmp 31) dH dH rfl fH rfl rfl (λw9 dM je=>?_))
     have dN:=Below.gB hB2 je;go_wp2_with fail;exact jo results44 dM rfl rfl (jQ bK.O dN)
   ·have bK:=ah (BJ (n:=n) hc'.O (by rw[ZY.O,show cZ n 1 200=false from nU.2 (by omega)];rfl))
    have fH:=hR.O _ h02;go_wp2_with (refine dB (.tmp 10) (.tmp 31) dH dH rfl fH rfl rfl (λw9 dM je=>?_))
    have dN:=Below.gB hB2 je;go_wp2_with fail;exact jo results44 dM rfl rfl (jQ bK.O dN)
 ·have hne:(aQ p s !=0)=true:=by simpa using hc
  have bK:=ah (TK (b:=b) (g:=g) (n:=n) hc);clear hc;have fH:=hR.O _ h1;go_wp2_with (refine dB (.tmp 10) (.tmp 19) dH dH rfl fH rfl rfl (λw9 dM je=>?_))
  have dN:=Below.gB hB1 je;go_wp2_with fail;exact jo results44 dM rfl rfl (jQ bK.O dN)
end Wh
namespace Wh
open Go Go.RowKit Go.Shelf Go.Proofs Tryz
structure Step(ks:Nat->Prop)(w w':World):Prop where
 os:w'.os=w.os
 tape:w'.tape=w.tape
 output:w'.output=w.output
 size:w.heap.size<=w'.heap.size
 block:∀k,k<w.heap.size->¬ks k->w'.heap[k]?=w.heap[k]?
namespace Step
variable {ks ks':Nat→Prop} {a b c w w':World}
theorem refl(ks:Nat->Prop)(w:World):Step ks w w:=⟨rfl,rfl,rfl,au _,λ_ _ _=>rfl⟩
theorem trans'(h:Step ks a b)(h':Step ks' b c)(hk:∀k,k<a.heap.size->ks' k->ks k):Step ks a c:=
 ⟨h'.os.trans h.os,h'.tape.trans h.tape,h'.output.trans h.output,aY h.size h'.size,λk hl hn=>(h'.block k (aI hl h.size) (λhh=>hn (hk k hl hh))).trans (h.block k hl hn)⟩
theorem trans(h:Step ks a b)(h':Step ks b c):Step ks a c:=h.trans' h' λ_ _ h=>h
theorem mono(h:Step ks w w')(hk:∀k,ks k->ks' k):Step ks' w w':=⟨h.os,h.tape,h.output,h.size,λk hl hn=>h.block k hl λhh=>hn (hk k hh)⟩
theorem of_below(h:Below w.heap.size w w'):Step ks w w':=⟨h.os,h.tape,h.output,h.size,λk hl _=>h.block k hl⟩
theorem jR{row:Option Nat}(h:w.grownBy w' row)(hk:∀k,row=some k->ks k):Step ks w w':=
 ⟨h.os,h.tape,h.output,h.size,λk hl hn=>h.block k hl (λhe=>hn (hk k he.symm))⟩
theorem below{B:Nat}(h:Step ks w w')(hk:∀k,ks k->B<=k)(hB:B<=w.heap.size):Below B w w':=
 ⟨h.os,h.tape,h.output,h.size,λk hl=>h.block k (aI hl hB) λhh=>Nat.not_le_of_lt hl (hk k hh)⟩
theorem blk{g:Nat}{e:TypeId}{cur:List Value}(h:Step ks w w')(hb:iV w g e cur)(hn:¬ks g):iV w' g e cur:=(h.block g hb.lt hn).trans hb
theorem heap{g:Nat}{o:Obj}(h:Step ks w w')(hb:w.heap[g]?=some o)(hn:¬ks g):w'.heap[g]?=some o:=(h.block g (bJ.1 hb).1 hn).trans hb
end Step
theorem Own.step{α:Type}{enc:α->List Value}{size:Nat}{e:TypeId}{w w':World}{aO:Nat}{v:Value}{l:List α}{ks:Nat->Prop}(h:Own enc size e w aO v l)(hs:Step ks w w')(hk:∀k,v.ownBlock=some k->¬ks k):Own enc size e w' aO v l:=by
 refine⟨h.1,?_⟩
 rcases h.2 with hn|⟨g,cap,cur,rfl,hbg,hg,rest⟩
 ·exact .inl hn
 ·exact .inr ⟨g,cap,cur,rfl,hbg,by rw[hs.block g (bJ.1 hg).1 (hk g rfl)];exact hg,rest⟩
structure jcQ(t:TypeId):Prop where
 h1:23≠t
 h2:3≠t
 h3:42≠t
 h4:44≠t
 h5:46≠t
 h6:48≠t
theorem Xp:jcQ 31:=⟨by decide,by decide,by decide,by decide,by decide,by decide⟩
structure Bx(w:World)(aO b:Nat)(t:TypeId)(rest:List Value)(V:SV)(s:aJ):Prop where
 box:iV w b t (V.cells++rest)
 own:dK w aO V s
 ty:jcQ t
namespace Bx
variable {w w':World} {aO b:Nat} {t:TypeId} {rest:List Value} {V:SV} {s:aJ} {ks:Nat→Prop}
theorem of(h:jk w b V)(ho:dK w aO V s):Bx w aO b 31 [] V s:=⟨by rw[iJ];exact h,ho,Xp⟩
theorem uK(h:Bx w aO b 31 [] V s):jk w b V:=by have:=h.box;rwa [iJ]at this
theorem lt(h:Bx w aO b t rest V s):b<w.heap.size:=h.box.lt
theorem below(h:Bx w aO b t rest V s)(hb:Below w.heap.size w w'):Bx w' aO b t rest V s:=⟨h.box.below hb h.lt,h.own.below hb,h.ty⟩
theorem drew(h:Bx w aO b t rest V s):Bx w.drew aO b t rest V s:=⟨h.box,h.own.drew,h.ty⟩
theorem from_(h:Bx w aO b t rest V s){base':Nat}(hb:base'<=aO):Bx w base' b t rest V s:=⟨h.box,h.own.from_ hb,h.ty⟩
theorem cells(h:Bx w aO b t rest V s):w.cell? ⟨b,0,none⟩=some V.on/\w.cell? ⟨b,1,none⟩=some V.ak/\w.cell? ⟨b,2,none⟩=some V.aA/\w.cell? ⟨b,3,none⟩=some V.aF/\
  w.cell? ⟨b,4,none⟩=some V.gY/\w.cell? ⟨b,5,none⟩=some V.O/\w.cell? ⟨b,6,none⟩=some V.bg:=
 ⟨h.box.cell rfl,h.box.cell rfl,h.box.cell rfl,h.box.cell rfl,h.box.cell rfl,h.box.cell rfl,h.box.cell rfl⟩
theorem frozen(h:Bx w aO b t rest V s)(o:Nat):w.frozen? ⟨b,o,none⟩=false:=h.box.frozen o
theorem setCells(h:Bx w aO b t rest V s)(j:Nat)(u:Value)(V':SV)(hV:V'.cells++rest=(V.cells++rest).set j u):
  iV (w.setCell ⟨b,j,none⟩ u) b t (V'.cells++rest)/\w.grownBy (w.setCell ⟨b,j,none⟩ u) (some b)/\dK (w.setCell ⟨b,j,none⟩ u) aO V s:=by
 obtain⟨h1,h2⟩:=xA h.box j u;exact⟨by rw[hV];exact h1,h2,h.own.keptBy h2 h.box h.ty.h1 h.ty.h2 h.ty.h3 h.ty.h4 h.ty.h5 h.ty.h6⟩
theorem set'{V':SV}{s':aJ}(hb:iV w b t (V.cells++rest))(ho:dK w aO V' s')(hT:jcQ t)(j:Nat)(u:Value)(hV:V'.cells++rest=(V.cells++rest).set j u):
  Bx (w.setCell ⟨b,j,none⟩ u) aO b t rest V' s'/\w.grownBy (w.setCell ⟨b,j,none⟩ u) (some b):=by
 obtain⟨h1,h2⟩:=xA hb j u;exact⟨⟨by rw[hV];exact h1,ho.keptBy h2 hb hT.h1 hT.h2 hT.h3 hT.h4 hT.h5 hT.h6,hT⟩,h2⟩
theorem KJ{w1 w2:World}(h:Bx w aO b t rest V s)(hb:Below w.heap.size w w1){u:Value}{x:Order}(hu:Own kP 4 44 w1 aO u x.aH)(hf:∀g,u.ownBlock=some g->w.heap.size<=g)(hg:w1.grownBy w2 V.ak.ownBlock)
  {v':Value} (hv:Own Nl 2 42 w2 aO v' (zI s.ak V.aH++[(x.dW,u)])):
  iV w2 b t (V.cells++rest)/\dK w2 aO {V with ak:=v',aH:=V.aH++[u]} {s with ak:=s.ak++[x]}:=by
 have h1:=h.below hb;exact⟨h1.box.grown hg (λhe=>by
  rcases h1.own.ak.mQ h1.box h1.ty.h3 with h|h
  ·rw[h]at he;cases he
  ·exact h he.symm),h.own.KJ hb hu hf hg hv⟩
theorem jg9(h:Bx w aO b t rest V s){u:Value}{l:List dZ}(hu:Own ig 4 46 w aO u l):
  Bx (w.setCell ⟨b,2,none⟩ u) aO b t rest {V with aA:=u} {s with aA:=l}/\w.grownBy (w.setCell ⟨b,2,none⟩ u) (some b):=by
 obtain⟨h1,h2,h3⟩:=h.setCells 2 u {V with aA:=u} rfl
 exact⟨⟨h1,⟨h3.on,h3.rlen,h3.row,h3.ak,h3.llen,h3.aG,hu.kept h2 (hu.mQ h.box h.ty.h5),h3.aF,h3.gY,h3.O,h3.bg,h3.apart,h3.yS⟩,h.ty⟩,h2⟩
theorem off(h:Bx w aO b t rest V s){g:Nat}{e:TypeId}{cur:List Value}(hb:iV w g e cur)(hne:e≠t)(hg:w.grownBy w' (some g)):iV w' b t (V.cells++rest):=
 h.box.grown hg (by intro he;injection he with he;exact hb.ne h.box hne he.symm)
end Bx
theorem jkB{w:World}{aO:Nat}{V:SV}{s:aJ}(h:dK w aO V s){o k:Nat}(ho:o<s.ak.length)(hk:k<(s.aC o).aH.length){gl n c:Nat}(hv:V.aG o=.slice (some ⟨gl,0,none⟩) n c):∃cur,iV w gl 44 cur:=by
 obtain⟨g,c',cur,e1,_,e3,_⟩:=h.gK ho hk;rw[hv]at e1
 injection e1 with e1
 injection e1 with e1
 injection e1 with e1
 subst e1;exact⟨cur,e3⟩
section
variable {ops:Array Oper} {rest:List Oper} {o:Oper} {a:Act} {w:World} {Q:Exit→Act→World→Prop} {aO b:Nat} {t:TypeId} {cs:List Value} {V:SV} {s:aJ}
theorem GV(hgd:o.guard=none)(x y:Operand)(ho:o.op=.store 28 x y)(hn:o.dst=none)(A:Option Addr)(n c:Nat)(l:List dZ)(hB:Bx w aO b t cs V s)(hx:a.eval x=.pointer (some ⟨b,2,none⟩))(hy:a.eval y=.slice A n c)
  (hu:Own ig 4 46 w aO (.slice A n c) l) (h:∀w',Bx w' aO b t cs {V with aA:=.slice A n c} {s with aA:=l}->Step (·=b) w w'->wpList prog ops Q rest a w'):wpList prog ops Q (o::rest) a w:=
 jv hgd λK hK=>by
  obtain⟨h1,h2⟩:=hB.jg9 hu;have h3:=h _ h1 (.jR h2 λk hk=>by injection hk with hk;exact hk.symm)
  have hc:=hB.cells.2.2.1;have hf:=hB.frozen 2;clear h hB hu h1 h2;unfold Oper.wp;simp only[execOp,ho,hx,hy];go_simp
  exact hK _ _ h3
theorem jen{w:World}{gl o j:Nat}{a b c d:Value}(hj:j<4)(h0:w.cell? ⟨gl,o,none⟩=some a)(h1:w.cell? ⟨gl,o+1,none⟩=some b)(h2:w.cell? ⟨gl,o+2,none⟩=some c)(h3:w.cell? ⟨gl,o+3,none⟩=some d):∃u,w.cell? ⟨gl,o+j,none⟩=some u:=by
 rcases(show j=0\/j=1\/j=2\/j=3 by omega)with rfl|rfl|rfl|rfl
 ·exact⟨_,h0⟩
 ·exact⟨_,h1⟩
 ·exact⟨_,h2⟩
 ·exact⟨_,h3⟩
theorem PI(hgd:o.guard=none)(x y:Operand)(ho:o.op=.store 27 x y)(hn:o.dst=none)(A:Option Addr)(n c:Nat){V':SV}{s':aJ}(hk:iV w b t (V.cells++cs))(hO:dK w aO V' s')(hT:jcQ t)(hV:V'.cells++cs=(V.cells++cs).set 1 (.slice A n c))
  (hx:a.eval x=.pointer (some ⟨b,1,none⟩)) (hy:a.eval y=.slice A n c) (h:∀w',Bx w' aO b t cs V' s'->Step (·=b) w w'->wpList prog ops Q rest a w'):wpList prog ops Q (o::rest) a w:=
 jv hgd λK hK=>by
  obtain⟨h1,h2⟩:=Bx.set' hk hO hT 1 (.slice A n c) hV;have h3:=h _ h1 (.jR h2 λk hk=>by injection hk with hk;exact hk.symm)
  have hc:w.cell? ⟨b,1,none⟩=some V.ak:=hk.cell rfl;have hf:=hk.frozen 1;clear h hk hO h1 h2 hV;unfold Oper.wp;simp only[execOp,ho,hx,hy];go_simp
  exact hK _ _ h3
theorem Ig(hgd:o.guard=none)(x y:Operand)(ho:o.op=.store 28 x y)(hn:o.dst=none)(A:Option Addr)(n c:Nat){V':SV}{s':aJ}(hk:iV w b t (V.cells++cs))(hO:dK w aO V' s')(hT:jcQ t)(hV:V'.cells++cs=(V.cells++cs).set 2 (.slice A n c))
  (hx:a.eval x=.pointer (some ⟨b,2,none⟩)) (hy:a.eval y=.slice A n c) (h:∀w',Bx w' aO b t cs V' s'->Step (·=b) w w'->wpList prog ops Q rest a w'):wpList prog ops Q (o::rest) a w:=
 jv hgd λK hK=>by
  obtain⟨h1,h2⟩:=Bx.set' hk hO hT 2 (.slice A n c) hV;have h3:=h _ h1 (.jR h2 λk hk=>by injection hk with hk;exact hk.symm)
  have hc:w.cell? ⟨b,2,none⟩=some V.aA:=hk.cell rfl;have hf:=hk.frozen 2;clear h hk hO h1 h2 hV;unfold Oper.wp;simp only[execOp,ho,hx,hy];go_simp
  exact hK _ _ h3
theorem LH(hgd:o.guard=none)(x y:Operand)(ho:o.op=.store 29 x y)(hn:o.dst=none)(A:Option Addr)(n c:Nat){V':SV}{s':aJ}(hk:iV w b t (V.cells++cs))(hO:dK w aO V' s')(hT:jcQ t)(hV:V'.cells++cs=(V.cells++cs).set 3 (.slice A n c))
  (hx:a.eval x=.pointer (some ⟨b,3,none⟩)) (hy:a.eval y=.slice A n c) (h:∀w',Bx w' aO b t cs V' s'->Step (·=b) w w'->wpList prog ops Q rest a w'):wpList prog ops Q (o::rest) a w:=
 jv hgd λK hK=>by
  obtain⟨h1,h2⟩:=Bx.set' hk hO hT 3 (.slice A n c) hV;have h3:=h _ h1 (.jR h2 λk hk=>by injection hk with hk;exact hk.symm)
  have hc:w.cell? ⟨b,3,none⟩=some V.aF:=hk.cell rfl;have hf:=hk.frozen 3;clear h hk hO h1 h2 hV;unfold Oper.wp;simp only[execOp,ho,hx,hy];go_simp
  exact hK _ _ h3
theorem AO(hgd:o.guard=none)(x z:Operand)(ho:o.op=.store 3 x z)(hn:o.dst=none){i k j gl n c:Nat}{y:Line}{q:Int}(hB:Bx w aO b t cs V s)(hi:i<s.ak.length)(hk:k<(s.aC i).aH.length)
  (hv:V.aG i=.slice (some ⟨gl,0,none⟩) n c) (hj:j<4) (hy:kP y=(kP (s.aG i k)).set j (.int .i64 q)) (hx:a.eval x=.pointer (some ⟨gl,k*4+j,none⟩)) (hz:a.eval z=.int .i64 q)
  (h:∀w',Bx w' aO b t cs V (s.lY i k y)->Step (·=gl) w w'->wpList prog ops Q rest a w'):wpList prog ops Q (o::rest) a w:=
 jv hgd λK hK=>by
  obtain⟨g',c',cur,e1,_,e3,f0,f1,f2,f3⟩:=hB.own.gK hi hk;rw[hv]at e1
  injection e1 with e1
  injection e1 with e1
  injection e1 with e1
  subst e1;obtain⟨h1,h2⟩:=hB.own.lY hi hk hv hj hy;have h3:=h _ ⟨hB.off e3 hB.ty.h4 h2,h1,hB.ty⟩ (.jR h2 λk hk=>by injection hk with hk;exact hk.symm)
  have hf:=e3.frozen (k*4+j);obtain⟨u,hc⟩:=jen hj f0 f1 f2 f3;clear h hB h1 h2 f0 f1 f2 f3 e3 hy;unfold Oper.wp;simp only[execOp,ho,hx,hz];go_simp
  exact hK _ _ h3
end
end Wh
