/- Texts of the claim, joined. -/
import Derived.Sort.QuietThIn
import Derived.OwnWalkIn
import Derived.RangeFuncCalls
import Derived.Test.YtfhfkijmebhgmaaGreatR17
set_option maxHeartbeats 20000000
set_option maxRecDepth 100000
namespace Wh
open Go Go.RowKit Go.Shelf Go.Proofs Tryz
attribute [local go_sem] aT jW jm kC
def rZ(s:aJ)(c g:Nat)(n:Int):aJ:={s with on:=setCell s.on c g (cell s.on c g - n)}
def pk2(s:aJ)(c g:Nat)(n:Int):aJ:={rZ s c g n with O:=s.O.set g (bI s.O g+n)}
theorem jhC{s:aJ}{i j c g:Nat}{n:Int}(hg:(s.aG i j).dh.toNat=g):({pk2 s c g n with aA:=jH s.aA ⟨i,j,c,0⟩}:aJ)=preS s i j c n:=by subst hg;rfl
theorem jkl(w:World)(v vs:Value)(p:dA)(s:aJ)(o k b n:Int)(hp:mW w w.heap.size v p)(hv:lK w w.heap.size vs s):
  Calls prog 55 #[v,vs,.int .i64 o,.int .i64 k,.int .i64 b,.int .i64 n] w (nN (pick p s o k b n) w):=by
 obtain⟨Ab,cb,As,cs,rfl,hP',hBn,hSz,hlb,hls⟩:=sN hp;obtain⟨A0,c0,A1,c1,A2,c2,A3,c3,A4,c4,A5,c5,A6,c6,rfl,hV,hN,hO,hH,hM,hI,hU,hX,hl0,hl1,hl2,hl3,hl4,hl5,JA⟩:=oW hv;go_enter func55,ntmps55
 go_wp2_with fail;obtain⟨W0,hW0,hb0,lg,uZ,hsE,hK,hR⟩:=yD w p s Ab cb As cs A0 c0 A1 c1 A2 c2 A3 c3 A4 c4 A5 c5 A6 c6;rw[hW0];clear hW0;obtain⟨⟨y0,y1⟩,x0,x1,x2,x3,x4,x5,x6,eP,eU⟩:=hK.O W0 (aj W0.heap.size W0);go_wp2_with fail;clear y0 y1 x0 x1 x2 x3 x4 x5 x6 eP eU;refine(Ag _ _ _ p s (hP'.O _ hb0) (hV.O _ hb0)).mono ?_
 rintro e W1 ⟨rfl,h1⟩;have hB1:=hb0.trans (h1.mono hb0.size);obtain⟨⟨y0,y1⟩,x0,x1,x2,x3,x4,x5,x6,eP,eU⟩:=hK.O W1 (h1);by_cases hc:aQ p s=0
 ·have hc':=ah hc;have hsn:=ah (kM.1 hc).1;rw[hc];clear hc;go_wp2_with fail;refine(Zy _ _ s.aA o k b (hH.O _ hB1)).mono ?_
  rintro e w' ⟨rfl,rfl⟩;by_cases hk0:bW s.aA o k b=0
  ·have bK:=ah (YC (n:=n) hc'.O hk0);rw[hk0];clear hk0;have fH:=hR.O _ h1;go_wp2_with (refine dB (.tmp 12) (.tmp 36) dH dH rfl fH rfl rfl (λw9 dM je=>?_))
   have dN:=Below.gB hB1 je;go_wp2_with fail;exact jo results55 dM rfl rfl (jQ bK.O dN)
  have hkq:(bW s.aA o k b==0)=false:=by simpa using hk0
  cases g1:cZ n 0 (bW s.aA o k b)
  ·have bK:=ah (Qm hc'.O hk0 (by have:=nU.1 g1;omega))
   clear hk0;go_wp2_with fail;refine(Fb g1 _).mono ?_
   rintro e w' ⟨rfl,rfl⟩;clear g1;have fH:=hR.O _ h1;go_wp2_with (refine dB (.tmp 12) (.tmp 41) dH dH rfl fH rfl rfl (λw9 dM je=>?_))
   have dN:=Below.gB hB1 je;go_wp2_with fail;exact jo results55 dM rfl rfl (jQ bK.O dN)
  have g1':=dV.1 g1;obtain⟨i,j,c,rfl,rfl,rfl,hi,hj,hcb,hh1,hh2,hpk⟩:=jeU hc'.O hk0 g1';have hpk':=ah hpk;have hg0:=(hsn.O.aG hi hj).1;obtain⟨g,hg⟩:∃g:Nat,(s.aG i j).dh=(g:Int):=⟨(s.aG i j).dh.toNat,by omega⟩
  have hgt:(s.aG i j).dh.toNat=g:=by omega
  have rG:g<p.aP.length:=by omega
  have hgo:g<s.O.length:=by rw[hsn.O.O.1];exact rG
  have jtJ:(g:Int)<(s.O.length:Int):=by omega
  have o1:=hsn.O.O.2 rG;have hwo:IntKind.i64.wrap (bI s.O g+n)=bI s.O g+n:=aN _ (by omega)
  have hi':(i:Int)<s.ak.length:=by omega
  have hj':(j:Int)<((s.aC i).aH.length:Int):=by omega
  obtain⟨Al,cl,ol,ll,d0,d1,hsl⟩:=(hO.O W1 hB1).aC hi;obtain⟨ok2,l2,e0,e1,e2,e3⟩:=hsl.at_.aG hj;change W1.cell? _=some (Value.int .i64 (s.aG i j).dh)at e0
  change W1.cell? _=some (Value.slice Al (s.aC i).aH.length cl)at d1
  rw[hg]at e0
  obtain⟨oi,li,ri⟩:=(hU.O W1 hB1).at_.int (i:=g) hgo;rw[hgt]at hpk'
  clear hk0 hpk d0 e1 e2 e3;by_cases hm:1048576<bI s.O g+n
  ·have bK:=ah (show pick p s i j c n=(jD,2)by rw[hpk'.O,aB hm])
   go_wp2_with fail;refine(Fb g1 _).mono ?_
   rintro e w' ⟨rfl,rfl⟩;clear g1 g1';have fH:=hR.O _ h1;go_wp2_with (refine dB (.tmp 12) (.tmp 60) dH dH rfl fH rfl rfl (λw9 dM je=>?_))
   have dN:=Below.gB hB1 je;go_wp2_with fail;exact jo results55 dM rfl rfl (jQ bK.O dN)
  have bK:=ah (show pick p s i j c n=(Ai p s i j c n,0)by rw[hpk'.O,ay hm])
  have hF:=ah (show FT p s i j c n from⟨hi,hj,hcb,hh1,g1'.1,g1'.2,by rw[hgt];omega⟩)
  go_wp2_with fail;refine(Fb g1 _).mono ?_
  rintro e w' ⟨rfl,rfl⟩;clear g1;go_wp2_with fail;clear y0 y1 x0 x1 x2 x3 x4 x5 x6 eP eU;clear d1 e0 hsl oi li ri ok2 l2 ol ll hkq hpk' hm;refine(EI _ _ p s (hV.O _ hB1) hsn.O).mono ?_
  rintro e W5 ⟨_,rfl,⟨V5,rfl,AY⟩,h5⟩;have pq:=(AY).one;have xw:=vG (W5);go_wp2_with (refine dB (.tmp 17) (.tmp 62) dH V5 rfl xw rfl pq (λw6 lM Ib=>?_);refine aW ?_)
  unfold Hid;have sG:=qX Ib;have vT:=lM.lt;clear pq xw Ib;have hx6:=ah (Bx.of lM (AY.below sG));have h06:=h1.trans ((h5.trans (sG.mono h5.size)).mono h1.size);have hle:w.heap.size<=W1.heap.size:=hB1.size;have hle0:W0.heap.size<=W1.heap.size:=h1.size;have zZ:W1.heap.size<=W5.heap.size:=h5.size;clear lM AY sG h5 vT h1 hB1;generalize W1.heap.size=aO at hx6 hle hle0 zZ
  generalize W5.heap.size=bx at hx6 zZ ⊢
  have hco:c<s.on.length:=by rw[hsn.O.tY];exact hcb
  have hci:(c:Int)<(s.on.length:Int):=by omega
  have hgr:g<(fO s.on c).length:=by rw[hsn.O.rowLen hcb];exact rG
  have jk0:(g:Int)<((fO s.on c).length:Int):=by omega
  have jtT:=hsn.O.cell hcb rG;have hw1:IntKind.i64.wrap (cell s.on c g - n)=cell s.on c g - n:=aN _ (by omega)
  obtain⟨Ic,con,PE,gr,cr,cur,Ot,Wy,Oa,r0,er,Wx,hbr,rc⟩:=hx6.O.own.Py hco hgr;obtain⟨c0,c1,c2,c3,c4,c5,c6⟩:=hx6.O.cells;rw[Ot]at c0
  have er':=ah er;clear Ot er Oa hbr;go_wp2_with fail;go_still_tail 17,(by kernel_rfl)
  change wpList _ _ _ _ _ w6.drew;refine GU rfl (.tmp 79) (.tmp 78) rfl rfl (i:=c) (g:=g) (q:=cell s.on c g - n) hx6.O.drew hco hgr er'.O rfl rfl (λw7 hx7 Ee=>?_)
  refine fC ?_
  have h07:=h06.drew.trans (Ee.below (B:=W0.heap.size) (λq hq=>by omega) h06.drew.size)
  have zx:=ah (show Bx w7 aO bx 31 [] V5 (rZ s c g n)from hx7)
  clear hx7 Ee c0 c1 c2 c3 c4 c5 c6 r0 rc hw1 hx6 h06 er';obtain⟨gu,cu,juJ,eu,hgu,hbu,ru⟩:=dK.BF zx.O.own.O (g:=g) hgo;change w7.cell? _=some (.int .i64 (bI s.O g))at ru
  change V5.O=.slice _ s.O.length _ at eu
  obtain⟨c0,c1,c2,c3,c4,c5,c6⟩:=zx.O.cells;rw[eu]at c5
  have eu':=ah eu;clear eu hbu;go_wp2_with fail;go_still_tail 11,(by kernel_rfl)
  change wpList _ _ _ _ _ w7.drew;refine Yi rfl (.tmp 90) (.tmp 89) rfl rfl (g:=g) (q:=bI s.O g+n) zx.O.drew hgo eu'.O rfl rfl (λw8 KQ AX=>?_)
  refine fC ?_
  have DY:=h07.drew.trans (AX.below (B:=W0.heap.size) (λq hq=>by omega) h07.drew.size)
  have vP:=ah (show Bx w8 aO bx 31 [] V5 (pk2 s c g n)from KQ)
  clear KQ AX c0 c1 c2 c3 c4 c5 c6 ru zx h07 eu';have kD:=su hsn.O.aA;have hs8:=ah (vP.O.own.aA.sl (by change s.aA.length<=_;omega))
  obtain⟨c0,c1,c2,c3,c4,c5,c6⟩:=vP.O.cells;go_wp2_with fail;clear c0 c1 c2 c3 c4 c5 c6;refine(jhj _ _ s.aA i j c 0 hs8.O hsn.O.aA (Jg hsn.O hi hj hcb)).mono ?_
  rintro e W9 ⟨u,rfl,hu,h9⟩;obtain⟨A7,c7,rfl⟩:=hu.isSlice;have jed:aO<=w8.heap.size:=aY zZ (jh vP.O.lt);have hu9:=ah (hu.from_ jed);have uO:=ah (vP.O.below h9);have h09:=DY.trans (h9.mono DY.size);clear hu h9 vP DY hs8;go_wp2_with (refine GV rfl (.tmp 97) (.tmp 96) rfl rfl A7 _ c7 _ uO.O rfl rfl hu9.O (λw10 Dz xu=>?_);refine aW ?_)
  unfold Hid;have h010:=h09.trans (xu.below (B:=W0.heap.size) (λq hq=>by omega) h09.size)
  have sK:=ah (show Bx w10 aO bx 31 [] {V5 with aA:=.slice A7 (jH s.aA ⟨i,j,c,0⟩).length c7} (preS s i j c n)by rw[<- jhC hgt];exact Dz)
  clear Dz xu uO hu9 h09;generalize ({V5 with aA:=.slice A7 (jH s.aA ⟨i,j,c,0⟩).length c7}:SV)=V9 at sK
  obtain⟨go,co,jjB,eo,jtK,Ob,z0,z1⟩:=sK.O.own.aU (o:=i) hi;obtain⟨gl,cl,curl,e1,hgl,Cc,f0,f1,f2,f3⟩:=sK.O.own.gK (o:=i) (k:=j) hi hj;obtain⟨c0,c1,c2,c3,c4,c5,c6⟩:=sK.O.cells;change w10.cell? _=some (.int .i64 (s.aG i j).dh)at f0
  change w10.cell? _=some (.int .i64 (s.aG i j).iw)at f1
  change w10.cell? _=some (.int .i64 (s.aG i j).oh)at f2
  change w10.cell? _=some (.int .i64 (s.aG i j).dP)at f3
  change V9.ak=.slice _ s.ak.length _ at eo
  change V9.aG i=.slice _ (s.aC i).aH.length _ at e1
  rw[eo]at c1
  rw[e1]at z1
  have e1':=ah e1;have XZ:=Cc.lt;have jgc:=Ob.lt;have jb2:bx<w10.heap.size:=sK.O.lt;obtain⟨gd,wt,gt,bk,hxl⟩:∃gd wt gt bk,s.aG i j=⟨gd,wt,gt,bk⟩:=⟨_,_,_,_,rfl⟩;have hln:=ah (hsn.O.aG hi hj).2;rw[hxl]at f0 f1 f2 f3 hg
  have ZX:=ah hxl;simp only at hg f0 f1 f2 f3
  subst hg;have jkX:(1<=wt/\wt<=200)/\(0<=gt/\gt<=wt)/\0<=bk/\bk<=wt:=by have:=hln.O;rwa [hxl]at this
  have hbl:=ah (iV.new w10 44 #[.int .i64 g,.int .i64 wt,.int .i64 gt,.int .i64 bk]);have hxa:=ah (sK.O.below ((aj _ w10).alloc (au _) (.cells #[.int .i64 g,.int .i64 wt,.int .i64 gt,.int .i64 bk] 44)));have h0a:=h010.alloc h010.size (.cells #[.int .i64 g,.int .i64 wt,.int .i64 gt,.int .i64 bk] 44);have eo':=ah eo;clear e1 eo Cc Ob hxl hln sK h010;go_wp2_with fail;clear c0 c1 c2 c3 c4 c5 c6 z0 z1 f0 f1 f2 f3 XZ jgc jb2;generalize w10.heap.size=wl at hbl ⊢
  generalize w10.alloc (.cells #[.int .i64 g,.int .i64 wt,.int .i64 gt,.int .i64 bk] 44)=w11 at hxa h0a hbl ⊢
  obtain⟨_,_,_,z1⟩:=hxa.O.own.oP (o:=i) hi eo'.O;rw[e1'.O]at z1
  obtain⟨_,c1,_⟩:=hxa.O.cells;rw[eo'.O]at c1
  have l1:=hbl.O.cell (j:=1) rfl;have l2:=hbl.O.cell (j:=2) rfl;have l3:=hbl.O.cell (j:=3) rfl;obtain⟨held,RF⟩:∃x,bW s.aA i j c=x:=⟨_,rfl⟩;rw[RF]at hh1 hh2 g1'
  have Qx:=ah RF;have hw2:IntKind.i64.wrap (gt+n)=gt+n:=aN _ (by omega)
  have hw3:IntKind.i64.wrap (bk+held)=bk+held:=aN _ (by omega)
  have hw4:IntKind.i64.wrap (bk+held - n)=bk+held - n:=aN _ (by omega)
  have hw5:IntKind.i64.wrap (held - n)=held - n:=aN _ (by omega)
  rw[RF];clear RF;go_wp2_with fail;go_still_tail 22,(by kernel_rfl)
  change wpList _ _ _ _ _ w11.drew;refine jaQ rfl (.tmp 128) (.tmp 127) rfl rfl (i:=i) (k:=j) (y:=⟨g,wt,gt+n,bk+held - n⟩) hxa.O.drew hi hj e1'.O rfl rfl (λw12 jh2 hst12=>?_)
  refine fC ?_
  have h012:=h0a.drew.trans (hst12.below (B:=W0.heap.size) (λq hq=>by omega) h0a.drew.size)
  have NT:=ah (show Bx w12 aO bx 31 [] V9 (qg s i j c held n)by rw[YB,ZX.O];exact jh2)
  clear jh2 hst12 hxa h0a hbl z1 c1 l1 l2 l3 hw2 hw3 hw4;have jih:=ah (show lI p (qg s i j c held n)by rw[<- Qx.O];exact Fj (jf hc'.O) hF.O)
  have jiA:=ah (show May (qg s i j c held n) i j (held - n)by rw[<- Qx.O];exact I8 (jf hc'.O) hF.O)
  have jjj:=hb0.trans (h012.mono hb0.size);obtain⟨⟨y0,y1⟩,x0,x1,x2,x3,x4,x5,x6,eP,eU⟩:=hK.O w12 (h012);obtain⟨c0,c1,c2,c3,c4,c5,c6⟩:=NT.O.cells;have hbs:aO<=w12.heap.size:=aY zZ (jh NT.O.lt);go_wp2_with fail;clear y0 y1 x0 x1 x2 x3 x4 x5 x6 eP eU;clear c0 c1 c2 c3 c4 c5 c6 hw5;refine(jhl _ _ p _ i j (held - n) c (hP'.O _ jjj) jih.O jiA.O NT.O.own hbs).mono ?_
  rintro e W13 ⟨V',hsb,rfl,jqZ,jl4⟩;have hkp:=jf1 NT.O.own (show i<(qg s i j c held n).ak.length by rw[oV];exact hi) jl4 hbs
  have jeb:=ah (hkp.2.1 rfl _ _ NT.O.uK);have h013:=h012.trans (hkp.1.mono hle0);have jir:=ah jqZ;clear hkp jl4 hsb NT jih jiA h012 jjj jqZ;go_wp2_with (refine dB (.tmp 17) (.tmp 139) V9 V' rfl jeb.O rfl jir.O.one (λw14 jiV jnL=>?_);refine aW ?_)
  unfold Hid;have jgl:=qR h013 jnL h013.size (λk hk=>by injection hk with hk;omega)
  have jh1:=Bx.of jiV (jir.O.keptBy jnL jeb.O.blk (by decide) (by decide) (by decide) (by decide) (by decide) (by decide))
  have NS:=ah (show Bx w14 aO bx 31 [] V' (DN p s i j c n)by unfold DN;rw[Qx.O];exact jh1)
  clear jh1 jiV jnL h013 jeb jir;have hTh:=(I9 (jf hc'.O) hF.O).1;have hTi:i<(DN p s i j c n).ak.length:=by rw[hTh.ak,oV];exact hi
  have hTs:=ah hTh.right.sane;have N7:=ah (show pick p s i j c n=(close (DN p s i j c n) i,0)from bK.O)
  clear hTh hF bK;generalize DN p s i j c n=T at NS hTi hTs N7
  have l13:=hTs.O.tN hTi;have hTi':(i:Int)<(T.ak.length:Int):=by omega
  obtain⟨go2,co2,_,eo2,hgo2,-⟩:=NS.O.own.aU hTi;have jjr:=ah eo2;obtain⟨gl2,cl2,e2,jre⟩:=NS.O.own.Dx hTi (by omega)
  have e2':=ah e2;clear eo2 e2;go_wp2_with fail;go_loopw[19,20] (λa k' wr=>∃q:Nat,q<=(T.aC i).aH.length/\k'=.int .i64 q/\a=.bool (JY (T.aC i) q)/\Below w14.heap.size w14 wr) (λ_ k' _=>(T.aC i).aH.length - (RowKit.intOf k').toNat)
  case atStart=>exact⟨0,aK _,rfl,rfl,aj _ _⟩
  case round=>
   obtain⟨q,hq,rfl,rfl,h4⟩:=hrel;have hx:=ah (NS.O.below h4);obtain⟨_,_,z0,z1⟩:=hx.O.own.oP hTi jjr.O;rw[e2'.O]at z1
   obtain⟨c0,c1,c2,c3,c4,c5,c6⟩:=hx.O.cells;rw[jjr.O]at c1
   by_cases hq1:q<(T.aC i).aH.length
   ·have hqi:(q:Int)<((T.aC i).aH.length:Int):=by omega
    obtain⟨_,f0,f1,f2,f3⟩:=hx.O.own.sV hTi hq1 e2'.O;have hsu:=ah (WJ hq1);change Hid (JY (T.aC i) (q+1)=(JY (T.aC i) q&&decide ((T.aG i q).oh=(T.aG i q).iw)))at hsu
    cases hgq:JY (T.aC i) q
    ·have hn:=ah (show JY (T.aC i) (q+1)=false by rw[hsu.O,hgq];rfl)
     clear hgq hsu;go_wp2_with fail;go_quiet (fail)
     go_wp2_with fail;go_roundw
     case rel=>exact⟨q+1,by omega,by go_num,by rw[hn.O],below_drewN h4 _⟩
     case measure=>simp[RowKit.intOf];omega
    ·by_cases hgw:(T.aG i q).oh=(T.aG i q).iw
     ·have hgb:((T.aG i q).oh==(T.aG i q).iw)=true:=by simpa using hgw
      have hn:=ah (show JY (T.aC i) (q+1)=true by rw[hsu.O,hgq,hgw];simp)
      clear hgq hsu hgw;go_wp2_with fail;go_quiet (fail)
      go_wp2_with fail;go_roundw
      case rel=>exact⟨q+1,by omega,by go_num,by rw[hn.O],below_drewN h4 _⟩
      case measure=>simp[RowKit.intOf];omega
     ·have hgb:((T.aG i q).oh==(T.aG i q).iw)=false:=by simpa using hgw
      have hn:=ah (show JY (T.aC i) (q+1)=false by rw[hsu.O,hgq,fA hgw];rfl)
      clear hgq hsu hgw;go_wp2_with fail;go_quiet (fail)
      go_wp2_with fail;go_roundw
      case rel=>exact⟨q+1,by omega,by go_num,by rw[hn.O],below_drewN h4 _⟩
      case measure=>simp[RowKit.intOf];omega
   ·obtain rfl:q=(T.aC i).aH.length:=by omega
    rw[YZ];have h0r:=jgl.trans (h4.mono jgl.size);have jog:=hb0.trans (h0r.mono hb0.size);cases hag:oZ (T.aC i)
    ·have bK:=ah (show pick p s i j c n=(T,0)by rw[N7.O];unfold close;rw[hag];rfl)
     have hvv:=jjr.O;clear hag N7 z0 c0 c1 c2 c3 c4 c5 c6 NS jjr e2';obtain⟨a0,a1,a2,a3,a4,a5,a6,a7,a8⟩:=V';obtain rfl:a1=.slice (some ⟨go2,0,none⟩) T.ak.length co2:=hvv;have fH:=hR.O _ h0r;obtain⟨b0,b1,b2,b3,b4,b5,b6⟩:=jk.cells hx.O.uK;have lG:=dK.one hx.O.own;go_wp2_with (refine dB (.tmp 12) (.tmp 182) dH (⟨a0,.slice (some ⟨go2,0,none⟩) T.ak.length co2,a2,a3,a4,a5,a6,a7,a8⟩:SV) rfl fH rfl lG (λw9 dM je=>?_))
     have wC:=dK.keptBy hx.O.own je fH (by decide) (by decide) (by decide) (by decide) (by decide) (by decide)
     have dN:=Below.gB jog je;clear b0 b1 b2 b3 b4 b5 b6;go_wp2_with fail;exact jo results55 dM rfl rfl (EZ bK.O (wC.from_ hle) dN)
    ·have bK:=ah (show pick p s i j c n=({T with ak:=T.ak.set i {T.aC i with dW:=2}},0)by rw[N7.O];unfold close;rw[hag];rfl)
     clear hag N7 c0 c2 c3 c4 c5 c6;go_wp2_with (refine F6 rfl (.tmp 181) (.const (.int .i64 2)) rfl rfl (i:=i) (q:=2) hx.O hTi jjr.O rfl rfl (λw15 jqC jl2=>?_);refine aW ?_)
     unfold Hid;have jsb:=h0r.trans (jl2.below (B:=W0.heap.size) (λq hq=>by omega) h0r.size)
     have jus:=hb0.trans (jsb.mono hb0.size);have jh0:=ah jqC;clear jqC jl2 z0 z1 c1;have fH:=hR.O _ jsb;obtain⟨b0,b1,b2,b3,b4,b5,b6⟩:=jk.cells jh0.O.uK;have lG:=dK.one jh0.O.own;go_wp2_with (refine dB (.tmp 12) (.tmp 182) dH V' rfl fH rfl lG (λw9 dM je=>?_))
     have wC:=dK.keptBy jh0.O.own je fH (by decide) (by decide) (by decide) (by decide) (by decide) (by decide)
     have dN:=Below.gB jus je;clear b0 b1 b2 b3 b4 b5 b6;go_wp2_with fail;exact jo results55 dM rfl rfl (EZ bK.O (wC.from_ hle) dN)
 ·have hne:(aQ p s !=0)=true:=by simpa using hc
  have bK:=ah (jbg (o:=o) (k:=k) (b:=b) (n:=n) hc);clear hc;have fH:=hR.O _ h1;go_wp2_with (refine dB (.tmp 12) (.tmp 26) dH dH rfl fH rfl rfl (λw9 dM je=>?_))
  have dN:=Below.gB hB1 je;go_wp2_with fail;exact jo results55 dM rfl rfl (jQ bK.O dN)
end Wh
namespace Wh
open Go Go.RowKit Go.Shelf Go.Proofs Tryz
attribute [local go_sem] aT jW jm kC
theorem drop_zero{l:List dZ}{o k b:Int}(hok:iD l=true)(h:bW l o k b=0):drop l o k b=([],0,4):=by
 unfold drop;rw[hok,ay (by simp),aB h]
theorem jgu{l:List dZ}{o k b:Int}(hok:iD l=true)(h:bW l o k b≠0):drop l o k b=(jH l ⟨o,k,b,0⟩,bW l o k b,0):=by
 unfold drop;rw[hok,ay (by simp),ay h]
theorem jb1{l x:List dZ}{o ln b m c:Int}(h:drop l o ln b=(x,m,c))(w:World)(v:Value)(hv:Sl ig w w.heap.size v l):
  Calls prog 101 #[v,.int .i64 o,.int .i64 ln,.int .i64 b] w λe w'=>∃u,e=.returned (.tuple #[u,.int .i64 m,.int .i64 c])/\Own ig 4 46 w' w.heap.size u x/\Below w.heap.size w w':=by
 have:=jnO w v l o ln b hv;unfold jcP at this
 rw[h]at this
 exact this
theorem XJ(s:aJ)(i j:Nat)(y z:Line)(hi:i<s.ak.length):(s.lY i j y).lY i j z=s.lY i j z:=by
 unfold aJ.lY;simp only;have h:aJ.aC {s with ak:=s.ak.set i {s.aC i with aH:=(s.aC i).aH.set j y}} i={s.aC i with aH:=(s.aC i).aH.set j y}:=by
  unfold aJ.aC;rw[EN hi,aB rfl]
 rw[h];simp only[DV]
theorem ZC{s:aJ}{i j c:Nat}{n held:Int}(hi:i<s.ak.length)(y:Line):
  ((preS s i j c n).lY i j y).lY i j {s.aG i j with oh:=(s.aG i j).oh+n,dP:=(s.aG i j).dP+(held - n)}=qg s i j c held n:=by
 rw[XJ (preS s i j c n) i j _ _ hi,YB,show(s.aG i j).dP+(held - n)=(s.aG i j).dP+held - n by omega]
theorem jkv(x:Line)(W:World):Calls prog 102 #[I5 x] W λe W'=>e=.returned (.bool (decide (x.oh<x.iw)))/\Below W.heap.size W W':=by
 have hb0:Below W.heap.size W (W.alloc (.cells #[.int .i64 (x).dh,.int .i64 (x).iw,.int .i64 (x).oh,.int .i64 (x).dP] 44)):=(aj _ _).alloc (au _) _;unfold I5;go_enter func102,ntmps102
 go_wp2_with fail;go_ret
 exact⟨rfl,hb0⟩
theorem X9:Enters prog 102:=enters_of func102 (by kernel_rfl) rfl
theorem jmQ(w:World)(v vs:Value)(p:dA)(s:aJ)(o k b n:Int)(hp:mW w w.heap.size v p)(hv:lK w w.heap.size vs s):
  Calls prog 48 #[v,vs,.int .i64 o,.int .i64 k,.int .i64 b,.int .i64 n] w (nN (pick p s o k b n) w):=by
 obtain⟨Ab,cb,As,cs,rfl,hP',hBn,hSz,hlb,hls⟩:=sN hp;obtain⟨A0,c0,A1,c1,A2,c2,A3,c3,A4,c4,A5,c5,A6,c6,rfl,hV,hN,hO,hH,hM,hI,hU,hX,hl0,hl1,hl2,hl3,hl4,hl5,JA⟩:=oW hv;go_enter func48,ntmps48
 go_wp2_with fail;obtain⟨W0,hW0,hb0,lg,uZ,hsE,hK,hR⟩:=yD w p s Ab cb As cs A0 c0 A1 c1 A2 c2 A3 c3 A4 c4 A5 c5 A6 c6;rw[hW0];clear hW0;obtain⟨⟨y0,y1⟩,x0,x1,x2,x3,x4,x5,x6,eP,eU⟩:=hK.O W0 (aj W0.heap.size W0);go_wp2_with fail;clear y0 y1 x0 x1 x2 x3 x4 x5 x6 eP eU;refine(Nz _ _ _ p s (hP'.O _ hb0) (hV.O _ hb0)).mono ?_
 rintro e W1 ⟨rfl,h1⟩;have hB1:=hb0.trans (h1.mono hb0.size);obtain⟨⟨y0,y1⟩,x0,x1,x2,x3,x4,x5,x6,eP,eU⟩:=hK.O W1 (h1);by_cases hc:aQ p s=0
 ·have hc':=ah hc;have hsn:=ah (kM.1 hc).1;rw[hc];clear hc;by_cases hk0:bW s.aA o k b=0
  ·have bK:=ah (YC (n:=n) hc'.O hk0);have hdr:=ah (drop_zero hsn.O.aA hk0);clear hk0;go_wp2_with fail;clear y0 y1 x0 x1 x2 x3 x4 x5 x6 eP eU;refine(jb1 hdr.O _ _ (hH.O _ hB1)).mono ?_
   rintro e W2 ⟨u,rfl,hu,h2⟩;have h02:=h1.trans (h2.mono h1.size);have hB2:=hb0.trans (h02.mono hb0.size);have fH:=hR.O _ h02;go_wp2_with (refine dB (.tmp 12) (.tmp 40) dH dH rfl fH rfl rfl (λw9 dM je=>?_))
   have dN:=Below.gB hB2 je;go_wp2_with fail;exact jo results48 dM rfl rfl (jQ bK.O dN)
  have hdr:=ah (jgu hsn.O.aA hk0);have hk0':=ah hk0;have wK:=Fv (gG.1 hsn.O.aA).1 (gG.1 hsn.O.aA).2 o k b;clear hk0;go_wp2_with fail;clear y0 y1 x0 x1 x2 x3 x4 x5 x6 eP eU;refine(jb1 hdr.O _ _ (hH.O _ hB1)).mono ?_
  rintro e W2 ⟨u,rfl,hu,h2⟩;have h02:=h1.trans (h2.mono h1.size);have hB2:=hb0.trans (h02.mono hb0.size);have hle:w.heap.size<=W1.heap.size:=hB1.size;obtain⟨A7,c7,rfl⟩:=hu.isSlice;have hu2:=ah hu;have hle0:W0.heap.size<=W1.heap.size:=h1.size;have hle2:W1.heap.size<=W2.heap.size:=h2.size;clear hu h2 h1 hB1;obtain⟨⟨y0,y1⟩,x0,x1,x2,x3,x4,x5,x6,eP,eU⟩:=hK.O W2 (h02);by_cases g1:n<0
  ·have bK:=ah (Qm hc'.O hk0'.O (.inl g1));clear hu2;have fH:=hR.O _ h02;go_wp2_with (refine dB (.tmp 12) (.tmp 49) dH dH rfl fH rfl rfl (λw9 dM je=>?_))
   have dN:=Below.gB hB2 je;go_wp2_with fail;exact jo results48 dM rfl rfl (jQ bK.O dN)
  by_cases g2:bW s.aA o k b<n
  ·have bK:=ah (Qm hc'.O hk0'.O (.inr g2));clear hu2;have fH:=hR.O _ h02;go_wp2_with (refine dB (.tmp 12) (.tmp 49) dH dH rfl fH rfl rfl (λw9 dM je=>?_))
   have dN:=Below.gB hB2 je;go_wp2_with fail;exact jo results48 dM rfl rfl (jQ bK.O dN)
  obtain⟨i,j,c,rfl,rfl,rfl,hi,hj,hcb,hh1,hh2,hpk⟩:=jeU hc'.O hk0'.O (n:=n) ⟨by omega,by omega⟩
  have hpk':=ah hpk;have hn0:0<=n/\n<=bW s.aA i j c:=⟨by omega,by omega⟩
  clear hpk hk0' hdr wK;go_wp2_with fail;clear y0 y1 x0 x1 x2 x3 x4 x5 x6 eP eU;refine(ja1 _ _ p s (hV.O _ hB2) hsn.O).mono ?_
  rintro e W5 ⟨_,rfl,⟨V5,rfl,AY⟩,h5⟩;have pq:=(AY).one;have xw:=vG (W5);go_wp2_with (refine dB (.tmp 18) (.tmp 51) dH V5 rfl xw rfl pq (λw6 lM Ib=>?_);refine aW ?_)
  unfold Hid;have sG:=qX Ib;have vT:=lM.lt;clear pq xw Ib;have h26:=h5.trans (sG.mono h5.size);have hx6:=ah ((Bx.of lM (AY.below sG)).from_ hle2);have hu6:=ah (hu2.O.below h26);have h06:=h02.trans (h26.mono h02.size);have zZ:W1.heap.size<=W5.heap.size:=aY hle2 h5.size;clear lM AY sG h5 vT h02 hB2 h26 hu2 hle2;generalize W1.heap.size=aO at hx6 hle hle0 zZ hu6
  generalize W5.heap.size=bx at hx6 zZ ⊢
  have hg0:=(hsn.O.aG hi hj).1;obtain⟨g,hg⟩:∃g:Nat,(s.aG i j).dh=(g:Int):=⟨(s.aG i j).dh.toNat,by omega⟩
  have hgt:(s.aG i j).dh.toNat=g:=by omega
  have rG:g<p.aP.length:=by omega
  have hgo:g<s.O.length:=by rw[hsn.O.O.1];exact rG
  have jtJ:(g:Int)<(s.O.length:Int):=by omega
  have o1:=hsn.O.O.2 rG;have hwo:IntKind.i64.wrap (bI s.O g+n)=bI s.O g+n:=aN _ (by omega)
  have hi':(i:Int)<s.ak.length:=by omega
  have hj':(j:Int)<((s.aC i).aH.length:Int):=by omega
  rw[hgt]at hpk'
  obtain⟨go,co,jjB,eo,jtK,Ob,z0,z1⟩:=hx6.O.own.aU (o:=i) hi;obtain⟨gl,cl,curl,e1,hgl,Cc,f0,f1,f2,f3⟩:=hx6.O.own.gK (o:=i) (k:=j) hi hj;obtain⟨gu,cu,juJ,eu,hgu,hbu,ru⟩:=dK.BF hx6.O.own.O (g:=g) hgo;obtain⟨c0,c1,c2,c3,c4,c5,c6⟩:=hx6.O.cells;rw[eo]at c1
  rw[e1]at z1
  rw[eu]at c5
  rw[hg]at f0
  have e1':=ah e1;have eo':=ah eo;have eu':=ah eu;clear e1 eo eu Cc Ob hbu z0 f1 f2 f3;by_cases hm:1048576<bI s.O g+n
  ·have bK:=ah (show pick p s i j c n=(jD,2)by rw[hpk'.O,aB hm])
   go_wp2_with fail;go_quiet (fail)
   have Nq:=below_drewN h06 nq;have hBd:=hb0.trans (Nq.mono hb0.size);clear c0 c1 c2 c3 c4 c5 c6 z1 f0 ru hx6 hu6;generalize w6.drewN nq=w7 at Nq hBd ⊢
   have fH:=hR.O _ Nq;go_wp2_with (refine dB (.tmp 12) (.tmp 73) dH dH rfl fH rfl rfl (λw9 dM je=>?_))
   have dN:=Below.gB hBd je;go_wp2_with fail;exact jo results48 dM rfl rfl (jQ bK.O dN)
  have hmd:=fA hm;have bK:=ah (show pick p s i j c n=(Ai p s i j c n,0)by rw[hpk'.O,ay hm])
  have hF:=ah (show FT p s i j c n from⟨hi,hj,hcb,hh1,hn0.1,hn0.2,by rw[hgt];omega⟩)
  go_wp2_with fail;go_quiet (fail)
  have hd7:=below_drewN (aj w6.heap.size w6) nq;have hx7:=ah (hx6.O.below hd7);have hu7:=ah (hu6.O.below hd7);have h07:=h06.trans (hd7.mono h06.size);clear c0 c1 c2 c3 c4 c5 c6 z1 f0 ru hx6 hu6 hd7 h06 hpk' hmd hm;generalize w6.drewN nq=w7 at hx7 hu7 h07 ⊢
  go_wp2_with (refine GV rfl (.tmp 75) (.tmp 74) rfl rfl A7 _ c7 _ hx7.O rfl rfl hu7.O (λw8 KQ AX=>?_);refine aW ?_)
  unfold Hid;have DY:=h07.trans (AX.below (B:=W0.heap.size) (λq hq=>by omega) h07.size)
  have vP:=ah KQ;have e19:=ah (show({V5 with aA:=.slice A7 (jH s.aA ⟨i,j,c,0⟩).length c7}:SV).aG i=.slice (some ⟨gl,0,none⟩) (s.aC i).aH.length cl from e1'.O)
  have eo9:=ah (show({V5 with aA:=.slice A7 (jH s.aA ⟨i,j,c,0⟩).length c7}:SV).ak=.slice (some ⟨go,0,none⟩) s.ak.length co from eo'.O)
  clear KQ AX hx7 hu7 h07 e1' eo' eu';generalize ({V5 with aA:=.slice A7 (jH s.aA ⟨i,j,c,0⟩).length c7}:SV)=V9 at vP e19 eo9
  have hco:c<s.on.length:=by rw[hsn.O.tY];exact hcb
  have hci:(c:Int)<(s.on.length:Int):=by omega
  have hgr:g<(fO s.on c).length:=by rw[hsn.O.rowLen hcb];exact rG
  have jk0:(g:Int)<((fO s.on c).length:Int):=by omega
  have jtT:=hsn.O.cell hcb rG;have hw1:IntKind.i64.wrap (cell s.on c g - n)=cell s.on c g - n:=aN _ (by omega)
  obtain⟨Ic,con,PE,gr,cr,cur,Ot,Wy,Oa,r0,er,Wx,hbr,rc⟩:=vP.O.own.Py hco hgr;change w8.cell? _=some (.int .i64 (cell s.on c g))at rc
  change w8.cell? _=some (.slice _ (fO s.on c).length _)at r0
  change V9.on=.slice _ s.on.length _ at Ot
  obtain⟨_,f0,_⟩:=vP.O.own.sV (o:=i) (k:=j) hi hj e19.O;change w8.cell? _=some (.int .i64 (s.aG i j).dh)at f0
  rw[hg]at f0
  obtain⟨c0,_⟩:=vP.O.cells;rw[Ot]at c0
  have er':=ah er;clear Ot er Oa hbr;go_wp2_with fail;go_still_tail 14,(by kernel_rfl)
  change wpList _ _ _ _ _ w8.drew;refine GU rfl (.tmp 89) (.tmp 88) rfl rfl (i:=c) (g:=g) (q:=cell s.on c g - n) vP.O.drew hco hgr er'.O rfl rfl (λw9 uO wJ=>?_)
  refine fC ?_
  have h09:=DY.drew.trans (wJ.below (B:=W0.heap.size) (λq hq=>by omega) DY.drew.size)
  have Dj:=ah (show Bx w9 aO bx 31 [] V9 {rZ s c g n with aA:=jH s.aA ⟨i,j,c,0⟩}from uO)
  clear uO wJ c0 f0 r0 rc hw1 vP DY er';obtain⟨gu2,cu2,curu2,eu2,hgu2,jtW,ru⟩:=dK.BF Dj.O.own.O (g:=g) hgo;change w9.cell? _=some (.int .i64 (bI s.O g))at ru
  change V9.O=.slice _ s.O.length _ at eu2
  obtain⟨_,f0,_⟩:=Dj.O.own.sV (o:=i) (k:=j) hi hj e19.O;change w9.cell? _=some (.int .i64 (s.aG i j).dh)at f0
  rw[hg]at f0
  obtain⟨_,_,_,_,_,c5,_⟩:=Dj.O.cells;rw[eu2]at c5
  have eu':=ah eu2;clear eu2 jtW;go_wp2_with fail;go_still_tail 11,(by kernel_rfl)
  change wpList _ _ _ _ _ w9.drew;refine Yi rfl (.tmp 100) (.tmp 99) rfl rfl (g:=g) (q:=bI s.O g+n) Dj.O.drew hgo eu'.O rfl rfl (λw10 Dz xu=>?_)
  refine fC ?_
  have h010:=h09.drew.trans (xu.below (B:=W0.heap.size) (λq hq=>by omega) h09.drew.size)
  have sK:=ah (show Bx w10 aO bx 31 [] V9 (preS s i j c n)by rw[<- jhC hgt];exact Dz)
  clear Dz xu c5 f0 ru Dj h09 eu';have hln:=(hsn.O.aG hi hj).2;obtain⟨gd,wt,gt,bk,hxl⟩:∃gd wt gt bk,s.aG i j=⟨gd,wt,gt,bk⟩:=⟨_,_,_,_,rfl⟩;rw[hxl]at hln hg
  have ZX:=ah hxl;simp only at hln hg
  subst hg;obtain⟨held,RF⟩:∃x,bW s.aA i j c=x:=⟨_,rfl⟩;rw[RF]at hh1 hh2 hn0
  have Qx:=ah RF;have hw2:IntKind.i64.wrap (gt+n)=gt+n:=aN _ (by omega)
  have hw5:IntKind.i64.wrap (held - n)=held - n:=aN _ (by omega)
  have hw4:IntKind.i64.wrap (bk+(held - n))=bk+(held - n):=aN _ (by omega)
  obtain⟨_,f0,f1,f2,f3⟩:=sK.O.own.sV (o:=i) (k:=j) hi hj e19.O;change w10.cell? _=some (.int .i64 (s.aG i j).oh)at f2
  rw[hxl]at f2
  rw[RF];clear RF f0 f1 f3 hxl;go_wp2_with (refine AO rfl (.tmp 108) (.tmp 106) rfl rfl (i:=i) (k:=j) (j:=2) (y:=⟨g,wt,gt+n,bk⟩) sK.O hi hj e19.O (by decide) (show kP ⟨g,wt,gt+n,bk⟩=(kP (s.aG i j)).set 2 (.int .i64 (gt+n))by rw[ZX.O];rfl) rfl rfl (λw11 XV jl5=>?_);refine aW ?_)
  unfold Hid;have h011:=h010.trans (jl5.below (B:=W0.heap.size) (λq hq=>by omega) h010.size)
  have jh3:=ah XV;have jnC:=ah (show((preS s i j c n).lY i j ⟨g,wt,gt+n,bk⟩).aG i j=⟨g,wt,gt+n,bk⟩by rw[LZ (s:=preS s i j c n) hi hj,aB ⟨rfl,rfl⟩])
  have jnI:i<((preS s i j c n).lY i j ⟨g,wt,gt+n,bk⟩).ak.length:=by rw[Jb];exact hi
  have jnG:j<(((preS s i j c n).lY i j ⟨g,wt,gt+n,bk⟩).aC i).aH.length:=by rw[Kw (s:=preS s i j c n) hi];exact hj
  clear XV jl5 f2 sK h010 hw2;obtain⟨_,f0,f1,f2,f3⟩:=jh3.O.own.sV jnI jnG e19.O;rw[jnC.O]at f3
  clear f0 f1 f2;go_wp2_with (refine AO rfl (.tmp 118) (.tmp 116) rfl rfl (i:=i) (k:=j) (j:=3) (y:=⟨g,wt,gt+n,bk+(held - n)⟩) jh3.O jnI jnG e19.O (by decide) (by rw[jnC.O];rfl) rfl rfl (λw12 jh2 hst12=>?_);refine aW ?_)
  unfold Hid;have h012:=h011.trans (hst12.below (B:=W0.heap.size) (λq hq=>by omega) h011.size)
  have NT:=ah (show Bx w12 aO bx 31 [] V9 (qg s i j c held n)by rw[<- ZC (s:=s) (n:=n) (held:=held) (c:=c) (j:=j) hi ⟨g,wt,gt+n,bk⟩,ZX.O];exact jh2)
  clear jh2 hst12 f3 jh3 h011 hw4 jnC jnI jnG;have jih:=ah (show lI p (qg s i j c held n)by rw[<- Qx.O];exact Fj (jf hc'.O) hF.O)
  have jiA:=ah (show May (qg s i j c held n) i j (held - n)by rw[<- Qx.O];exact I8 (jf hc'.O) hF.O)
  have jjj:=hb0.trans (h012.mono hb0.size);obtain⟨⟨y0,y1⟩,x0,x1,x2,x3,x4,x5,x6,eP,eU⟩:=hK.O w12 (h012);have hbs:aO<=w12.heap.size:=aY zZ (jh NT.O.lt);go_wp2_with fail;clear y0 y1 x0 x1 x2 x3 x4 x5 x6 eP eU;clear hw5;refine(jeH _ _ p _ i j (held - n) c (hP'.O _ jjj) jih.O jiA.O NT.O hbs).mono ?_
  rintro e w14 ⟨rfl,V7,jqP,jh1,jl3⟩;have hge:∀q,(q=bx\/(V9.aG i).ownBlock=some q)->aO<=q:=λq hq=>by
   rcases hq with rfl|hq
   ·exact zZ
   ·exact((NT.O.own.aG i (show i<(qg s i j c held n).ak.length by rw[oV];exact hi)).size q hq).1
  have jgl:=h012.trans (jl3.below (B:=W0.heap.size) (λq hq=>aY hle0 (hge q hq)) h012.size)
  have NS:=ah (show Bx w14 aO bx 31 [] V7 (DN p s i j c n)by unfold DN;rw[Qx.O];exact jh1)
  have eo7:=ah (show V7.ak=.slice (some ⟨go,0,none⟩) s.ak.length co by rw[jqP];exact eo9.O)
  clear jh1 jl3 jqP hge NT h012 jjj jih jiA eo9 e19;have hTh:=(I9 (jf hc'.O) hF.O).1;have hTi:i<(DN p s i j c n).ak.length:=by rw[hTh.ak,oV];exact hi
  have hTs:=ah hTh.right.sane;have N7:=ah (show pick p s i j c n=(close (DN p s i j c n) i,0)from bK.O)
  clear hTh hF bK;generalize DN p s i j c n=T at NS hTi hTs N7
  have l13:=hTs.O.tN hTi;obtain⟨_,_,_,z1⟩:=NS.O.own.oP hTi eo7.O;have hsl:=ah ((NS.O.own.aG i hTi).sl (by omega))
  go_wp2_with fail;clear z1;refine(xO _ _ (T.aC i).aH 102 #[] (λx=>decide (x.oh<x.iw)) X9 hsl.O (λj _ W hW=>jkv _ W)).mono ?_
  rintro e W15 ⟨rfl,h15⟩;rw[Xq hTs.O hTi];have hx:=ah (NS.O.below h15);have h0r:=jgl.trans (h15.mono jgl.size);have jog:=hb0.trans (h0r.mono hb0.size);clear hsl NS jgl h15;cases hag:oZ (T.aC i)
  ·have bK:=ah (show pick p s i j c n=(T,0)by rw[N7.O];unfold close;rw[hag];rfl)
   clear hag N7;have fH:=hR.O _ h0r;obtain⟨b0,b1,b2,b3,b4,b5,b6⟩:=jk.cells hx.O.uK;have lG:=dK.one hx.O.own;go_wp2_with (refine dB (.tmp 12) (.tmp 136) dH V7 rfl fH rfl lG (λw9 dM je=>?_))
   have wC:=dK.keptBy hx.O.own je fH (by decide) (by decide) (by decide) (by decide) (by decide) (by decide)
   have dN:=Below.gB jog je;clear b0 b1 b2 b3 b4 b5 b6;go_wp2_with fail;exact jo results48 dM rfl rfl (EZ bK.O (wC.from_ hle) dN)
  ·have bK:=ah (show pick p s i j c n=({T with ak:=T.ak.set i {T.aC i with dW:=2}},0)by rw[N7.O];unfold close;rw[hag];rfl)
   clear hag N7;obtain⟨_,_,z0,_⟩:=hx.O.own.oP hTi eo7.O;go_wp2_with (refine F6 rfl (.tmp 135) (.const (.int .i64 2)) rfl rfl (i:=i) (q:=2) hx.O hTi eo7.O rfl rfl (λw16 hx16 jl1=>?_);refine aW ?_)
   unfold Hid;have jsa:=h0r.trans (jl1.below (B:=W0.heap.size) (λq hq=>by omega) h0r.size)
   have jur:=hb0.trans (jsa.mono hb0.size);have jhZ:=ah hx16;clear hx16 jl1 z0;have fH:=hR.O _ jsa;obtain⟨b0,b1,b2,b3,b4,b5,b6⟩:=jk.cells jhZ.O.uK;have lG:=dK.one jhZ.O.own;go_wp2_with (refine dB (.tmp 12) (.tmp 136) dH V7 rfl fH rfl lG (λw9 dM je=>?_))
   have wC:=dK.keptBy jhZ.O.own je fH (by decide) (by decide) (by decide) (by decide) (by decide) (by decide)
   have dN:=Below.gB jur je;clear b0 b1 b2 b3 b4 b5 b6;go_wp2_with fail;exact jo results48 dM rfl rfl (EZ bK.O (wC.from_ hle) dN)
 ·have hne:(aQ p s !=0)=true:=by simpa using hc
  have bK:=ah (jbg (o:=o) (k:=k) (b:=b) (n:=n) hc);clear hc;have fH:=hR.O _ h1;go_wp2_with (refine dB (.tmp 12) (.tmp 26) dH dH rfl fH rfl rfl (λw9 dM je=>?_))
  have dN:=Below.gB hB1 je;go_wp2_with fail;exact jo results48 dM rfl rfl (jQ bK.O dN)
end Wh
namespace Wh
open Go Go.RowKit Go.Shelf Go.Proofs Tryz
attribute [local go_sem] aT jW jm kC
def mv2(s:aJ)(a d g:Nat)(n:Int):aJ:={rZ s a g n with on:=setCell (rZ s a g n).on d g (cell (rZ s a g n).on d g+n)}
theorem VK{s:aJ}{i a d g:Nat}{m n:Int}(h:bH s.aF i=⟨g,a,d,m⟩):({mv2 s a d g n with aF:=s.aF.eraseIdx i}:aJ)=AQ s i n:=by
 unfold AQ;rw[h];rfl
theorem jlo(w:World)(v vs:Value)(p:dA)(s:aJ)(k n:Int)(hp:mW w w.heap.size v p)(hv:lK w w.heap.size vs s):
  Calls prog 50 #[v,vs,.int .i64 k,.int .i64 n] w (nN (CW p s k n) w):=by
 obtain⟨Ab,cb,As,cs,rfl,hP',hBn,hSz,hlb,hls⟩:=sN hp;obtain⟨A0,c0,A1,c1,A2,c2,A3,c3,A4,c4,A5,c5,A6,c6,rfl,hV,hN,hO,hH,hM,hI,hU,hX,hl0,hl1,hl2,hl3,hl4,hl5,JA⟩:=oW hv;go_enter func50,ntmps50
 go_wp2_with fail;obtain⟨W0,hW0,hb0,lg,uZ,hsE,hK,hR⟩:=yD w p s Ab cb As cs A0 c0 A1 c1 A2 c2 A3 c3 A4 c4 A5 c5 A6 c6;rw[hW0];clear hW0;obtain⟨⟨y0,y1⟩,x0,x1,x2,x3,x4,x5,x6,eP,eU⟩:=hK.O W0 (aj W0.heap.size W0);go_wp2_with fail;clear y0 y1 x0 x1 x2 x3 x4 x5 x6 eP eU;refine(Nz _ _ _ p s (hP'.O _ hb0) (hV.O _ hb0)).mono ?_
 rintro e W1 ⟨rfl,h1⟩;have hB1:=hb0.trans (h1.mono hb0.size);obtain⟨⟨y0,y1⟩,x0,x1,x2,x3,x4,x5,x6,eP,eU⟩:=hK.O W1 (h1);by_cases hc:aQ p s=0
 ·have hc':=ah hc;have hsn:=ah (kM.1 hc).1;rw[hc];clear hc;by_cases g1:k<0
  ·have bK:=ah (Qo (n:=n) hc'.O (.inl g1));have fH:=hR.O _ h1;go_wp2_with (refine dB (.tmp 8) (.tmp 29) dH dH rfl fH rfl rfl (λw9 dM je=>?_))
   have dN:=Below.gB hB1 je;go_wp2_with fail;exact jo results50 dM rfl rfl (jQ bK.O dN)
  by_cases g2:(s.aF.length:Int)<=k
  ·have bK:=ah (Qo (n:=n) hc'.O (.inr g2));have fH:=hR.O _ h1;go_wp2_with (refine dB (.tmp 8) (.tmp 29) dH dH rfl fH rfl rfl (λw9 dM je=>?_))
   have dN:=Below.gB hB1 je;go_wp2_with fail;exact jo results50 dM rfl rfl (jQ bK.O dN)
  obtain⟨i,rfl⟩:∃i:Nat,k=i:=⟨k.toNat,by omega⟩
  have hk:i<s.aF.length:=by omega
  have hki:(i:Int)<(s.aF.length:Int):=by omega
  have h8:=hsn.O.vJ;obtain⟨gd,sr,ds,mn,hxm⟩:∃gd sr ds mn,bH s.aF i=⟨gd,sr,ds,mn⟩:=⟨_,_,_,_,rfl⟩;have hmv:=hsn.O.bH hk;rw[hxm]at hmv
  simp only at hmv
  obtain⟨g,rfl⟩:∃g:Nat,gd=g:=⟨gd.toNat,by omega⟩
  obtain⟨a,rfl⟩:∃a:Nat,sr=a:=⟨sr.toNat,by omega⟩
  obtain⟨d,rfl⟩:∃d:Nat,ds=d:=⟨ds.toNat,by omega⟩
  have rG:g<p.aP.length:=by omega
  have hap:a<p.bQ.length:=by omega
  have hdp:d<p.bQ.length:=by omega
  have had:a≠d:=by omega
  have hao:a<s.on.length:=by rw[hsn.O.tY];exact hap
  have hdo:d<s.on.length:=by rw[hsn.O.tY];exact hdp
  have hga:g<(fO s.on a).length:=by rw[hsn.O.rowLen hap];exact rG
  have hgd:g<(fO s.on d).length:=by rw[hsn.O.rowLen hdp];exact rG
  have hai:(a:Int)<(s.on.length:Int):=by omega
  have hdi:(d:Int)<(s.on.length:Int):=by omega
  have jtP:(g:Int)<((fO s.on a).length:Int):=by omega
  have jtN:(g:Int)<((fO s.on d).length:Int):=by omega
  have hca:=hsn.O.cell hap rG;have hcd:=hsn.O.cell hdp rG;have Rx:=ah hxm;obtain⟨okm,lm,e0,e1,e2,e3⟩:=(hM.O W1 hB1).at_.move hk;rw[hxm]at e0 e1 e2 e3
  simp only at e0 e1 e2 e3
  have h1a:=h1.alloc h1.size (.cells #[.int .i64 g,.int .i64 a,.int .i64 d,.int .i64 mn] 48);have UA:=hB1.alloc hB1.size (.cells #[.int .i64 g,.int .i64 a,.int .i64 d,.int .i64 mn] 48);clear hxm;by_cases g3:n<0
  ·have bK:=ah (NI (n:=n) hc'.O hk (.inl g3));have fH:=hR.O _ h1a;go_wp2_with (refine dB (.tmp 8) (.tmp 43) dH dH rfl fH rfl rfl (λw9 dM je=>?_))
   have dN:=Below.gB UA je;go_wp2_with fail;exact jo results50 dM rfl rfl (jQ bK.O dN)
  by_cases g4:mn<n
  ·have bK:=ah (NI (n:=n) hc'.O hk (.inr (by rw[Rx.O];exact g4)))
   have fH:=hR.O _ h1a;go_wp2_with (refine dB (.tmp 8) (.tmp 43) dH dH rfl fH rfl rfl (λw9 dM je=>?_))
   have dN:=Below.gB UA je;go_wp2_with fail;exact jo results50 dM rfl rfl (jQ bK.O dN)
  have Oc:=ah (iV.new W1 48 #[.int .i64 g,.int .i64 a,.int .i64 d,.int .i64 mn]);obtain⟨Ar,cr,or0,TQ,Yx,vS⟩:=(hN.O W1 hB1).row hdo;obtain⟨or1,lr1,QW⟩:=vS.at_.int hgd;change W1.cell? _=some (.int .i64 (cell s.on d g))at QW
  have hw0:IntKind.i64.wrap (cell s.on d g+n)=cell s.on d g+n:=aN _ (by omega)
  by_cases hm:200<cell s.on d g+n
  ·have bK:=ah (VL (n:=n) hc'.O hk (by rw[Rx.O];exact⟨by omega,by simp only;omega⟩) (by rw[Rx.O];simp only[bZ];exact hm))
   go_wp2_with fail;go_quiet (fail)
   have Nq:=below_drewN h1a nq;have hBd:=below_drewN UA nq;clear y0 y1 x0 x1 x2 x3 x4 x5 x6 eP eU;clear e0 e1 e2 e3 okm lm or0 TQ Yx vS or1 lr1 QW Oc h1a UA;generalize (W1.alloc (.cells #[.int .i64 g,.int .i64 a,.int .i64 d,.int .i64 mn] 48)).drewN nq=W4 at Nq hBd ⊢
   have fH:=hR.O _ Nq;go_wp2_with (refine dB (.tmp 8) (.tmp 57) dH dH rfl fH rfl rfl (λw9 dM je=>?_))
   have dN:=Below.gB hBd je;go_wp2_with fail;exact jo results50 dM rfl rfl (jQ bK.O dN)
  have hmd:=fA hm;have bK:=ah (jbp (n:=n) hc'.O ⟨hk,by omega,by rw[Rx.O];simp only;omega,by rw[Rx.O];simp only[bZ];omega⟩)
  go_wp2_with fail;go_quiet (fail)
  have Nq:=below_drewN h1a nq;have hBd:=below_drewN UA nq;have Ho:=ah (Oc.O.below (below_drewN (aj _ _) nq) Oc.O.lt);clear y0 y1 x0 x1 x2 x3 x4 x5 x6 eP eU;clear e0 e1 e2 e3 okm lm or0 TQ Yx vS or1 lr1 QW Oc h1a UA hw0 hmd;generalize W1.heap.size=wl at Ho ⊢
  generalize (W1.alloc (.cells #[.int .i64 g,.int .i64 a,.int .i64 d,.int .i64 mn] 48)).drewN nq=W4 at Nq hBd Ho ⊢
  obtain⟨⟨y0,y1⟩,x0,x1,x2,x3,x4,x5,x6,eP,eU⟩:=hK.O W4 (Nq);go_wp2_with fail;clear y0 y1 x0 x1 x2 x3 x4 x5 x6 eP eU;refine(ja1 _ _ p s (hV.O _ hBd) hsn.O).mono ?_
  rintro e W5 ⟨_,rfl,⟨V5,rfl,AY⟩,h5⟩;have pq:=(AY).one;have xw:=vG (W5);go_wp2_with (refine dB (.tmp 12) (.tmp 59) dH V5 rfl xw rfl pq (λw6 lM Ib=>?_);refine aW ?_)
  unfold Hid;have sG:=qX Ib;have vT:=lM.lt;clear pq xw Ib;have h56:=h5.trans (sG.mono h5.size);have hx6:=ah (Bx.of lM (AY.below sG));have h06:=Nq.trans (h56.mono Nq.size);have vT:=ah (Ho.O.below h56 Ho.O.lt);have hlw:wl<W4.heap.size:=Ho.O.lt;have hle:w.heap.size<=W4.heap.size:=hBd.size;have hle0:W0.heap.size<=W4.heap.size:=Nq.size;have zZ:W4.heap.size<=W5.heap.size:=h5.size;clear lM AY sG h5 Ho Nq hBd h56;have jts:wl<w6.heap.size:=vT.O.lt;generalize W4.heap.size=aO at hx6 hle hle0 zZ hlw
  generalize W5.heap.size=bx at hx6 zZ ⊢
  have jed:aO<=bx:=zZ;have hcd1:cell (rZ s a g n).on d g=cell s.on d g:=by
   show cell (setCell s.on a g _) d g=_;rw[pR hao hga,ay (by omega)]
  have hw1:IntKind.i64.wrap (cell s.on a g - n)=cell s.on a g - n:=aN _ (by omega)
  have hw2:IntKind.i64.wrap (cell s.on d g+n)=cell s.on d g+n:=aN _ (by omega)
  obtain⟨Ic,con,PE,gr,cr,cur,Ot,Wy,Oa,r0,er,Wx,hbr,rc⟩:=hx6.O.own.Py hao hga;have c0:=hx6.O.cells.1;rw[Ot]at c0
  have er':=ah er;clear Ot er Oa hbr;have m0:=vT.O.cell (j:=0) rfl;have m1:=vT.O.cell (j:=1) rfl;go_wp2_with fail;go_still_tail 13,(by kernel_rfl)
  change wpList _ _ _ _ _ w6.drew;refine GU rfl (.tmp 72) (.tmp 71) rfl rfl (i:=a) (g:=g) (q:=cell s.on a g - n) hx6.O.drew hao hga er'.O rfl rfl (λw7 hx7 Ee=>?_)
  refine fC ?_
  have h07:=h06.drew.trans (Ee.below (B:=W0.heap.size) (λq hq=>by omega) h06.drew.size)
  have zx:=ah (show Bx w7 aO bx 31 [] V5 (rZ s a g n)from hx7)
  have Uy:=ah (Ee.blk (show iV w6.drew wl 48 _ from vT.O) (by omega))
  clear hx7 Ee c0 r0 rc m0 m1 hw1 hx6 h06 er' vT;have jd5:d<(rZ s a g n).on.length:=by show d<(setCell _ _ _ _).length;rw[qh];exact hdo
  have hgd1:g<(fO (rZ s a g n).on d).length:=by show g<(fO (setCell _ _ _ _) d).length;rw[uq];exact hgd
  obtain⟨Ic,con,PE,gr,cr,cur,Ot,Wy,Oa,r0,er,Wx,hbr,rc⟩:=zx.O.own.Py jd5 hgd1;rw[hcd1]at rc
  have c0:=zx.O.cells.1;rw[Ot]at c0
  have hl1:(rZ s a g n).on.length=s.on.length:=qh;have hl2:(fO (rZ s a g n).on d).length=(fO s.on d).length:=uq;rw[hl1]at c0
  rw[hl2]at r0
  have er':=ah er;clear Ot er Oa hbr hl1 hl2;have m0:=Uy.O.cell (j:=0) rfl;have m2:=Uy.O.cell (j:=2) rfl;go_wp2_with fail;go_still_tail 13,(by kernel_rfl)
  change wpList _ _ _ _ _ w7.drew;refine GU rfl (.tmp 85) (.tmp 84) rfl rfl (i:=d) (g:=g) (q:=cell s.on d g+n) zx.O.drew jd5 hgd1 er'.O rfl rfl (λw8 KQ AX=>?_)
  refine fC ?_
  have DY:=h07.drew.trans (AX.below (B:=W0.heap.size) (λq hq=>by omega) h07.drew.size)
  have vP:=ah (show Bx w8 aO bx 31 [] V5 (mv2 s a d g n)by unfold mv2;rw[hcd1];exact KQ)
  clear KQ AX c0 r0 rc m0 m2 hw2 zx h07 er' Uy jd5 hgd1;have hmo:=ah vP.O.own.aF;have c3:=vP.O.cells.2.2.2.1;go_wp2_with fail;clear c3;refine(jlr _ aO _ s.aF i hmo.O hk (by omega)).mono ?_
  rintro e w9 ⟨u,rfl,hu,je,hub⟩;obtain⟨A9,c9,rfl⟩:=hu.isSlice;have wC:=vP.O.own.IQ je hu;have Jk:some bx≠V5.aF.ownBlock:=λhe=>by
   rcases vP.O.own.aF.mQ vP.O.uK.blk (by decide)with h|h
   ·rw[h]at he;cases he
   ·exact h he.symm
  have Hq:=vP.O.uK.grown je Jk;have h09:=DY.grown je DY.size (λr hr=>by have:=(hmo.O.size r hr).1;omega)
  have jai:=ah Hq;have X5:=ah wC;clear hu je hub wC Hq hmo vP DY Jk;go_wp2_with (refine LH rfl (.tmp 92) (.tmp 91) rfl rfl A9 (s.aF.eraseIdx i).length c9 (V:=V5) (cs:=[]) (b:=bx) (by rw[iJ];exact jai.O.blk) X5.O Xp rfl rfl rfl (λw10 Dz xu=>?_);refine aW ?_)
  unfold Hid;have sK:=ah (show Bx w10 aO bx 31 [] {V5 with aF:=.slice A9 (s.aF.eraseIdx i).length c9} (AQ s i n)by rw[<- VK Rx.O];exact Dz)
  have h010:=h09.trans (xu.below (B:=W0.heap.size) (λq hq=>by omega) h09.size)
  have jcd:=hb0.trans (h010.mono hb0.size);clear Dz xu jai X5 h09;generalize ({V5 with aF:=.slice A9 (s.aF.eraseIdx i).length c9}:SV)=V9 at sK
  have fH:=hR.O _ h010;obtain⟨b0,b1,b2,b3,b4,b5,b6⟩:=jk.cells sK.O.uK;have lG:=dK.one sK.O.own;go_wp2_with (refine dB (.tmp 8) (.tmp 93) dH V9 rfl fH rfl lG (λw9 dM je=>?_))
  have wC:=dK.keptBy sK.O.own je fH (by decide) (by decide) (by decide) (by decide) (by decide) (by decide)
  have dN:=Below.gB jcd je;clear b0 b1 b2 b3 b4 b5 b6;go_wp2_with fail;exact jo results50 dM rfl rfl (EZ bK.O (wC.from_ hle) dN)
 ·have hne:(aQ p s !=0)=true:=by simpa using hc
  have bK:=ah (YJ (k:=k) (n:=n) hc);clear hc;have fH:=hR.O _ h1;go_wp2_with (refine dB (.tmp 8) (.tmp 18) dH dH rfl fH rfl rfl (λw9 dM je=>?_))
  have dN:=Below.gB hB1 je;go_wp2_with fail;exact jo results50 dM rfl rfl (jQ bK.O dN)
end Wh
namespace Wh
open Go Go.RowKit Go.Shelf Go.Proofs Tryz
section
variable {P:Program} {ops:Array Oper} {md:Region.Mode} {C:World→Prop} {l₀ n:Nat}
def JQ(ops:Array Oper):Bool:=ops.all λo=>match o.op with| .defer _=>false|_=>true
theorem VI{ops:Array Oper}(h:JQ ops=true){i:Nat}{o:Oper}(hi:ops[i]?=some o)(c:Call):o.op≠.defer c:=λe=>by
 unfold JQ at h
 rw[Array.all_eq_true]at h
 obtain⟨hl,rfl⟩:=bJ.1 hi
 have:=h i hl;rw[e]at this
 cases this
theorem U7{o:Oper}{a:Act}{K:Act->Prop}{K':Act->World->Prop}{Q':Exit->Act->World->Prop}{w:World}(hnd:∀c,o.op≠.defer c)(hw:C w)(h:∀a w',C w'->K a->K' a w')
  (hh:o.quiet P a C K):o.wpIn (Fence.wide.inRound l₀) n P a w K' Q':=by
 obtain⟨v,h1,h2⟩:=hh;have h3:=h1 w hw;unfold Oper.quietAt at h3
 unfold Oper.wpIn;refine⟨λ_ _=>trivial,?_⟩
 rw[Oper.semAt_plain _ _ _ hnd];generalize (execOp a.eval o).run P w=r at*
 cases r with
 |ok x w'=>
  cases x<;>simp only[Oper.quietUpon]at h3<;>simp only[Oper.uponIn]
  case value u=>
   obtain⟨e1,e2⟩:=h3;rw[e1,e2];exact h _ _ hw h2
  case skip=>
   obtain⟨e1,e2⟩:=h3;rw[e1,<- e2];exact h _ _ hw h2
  case enter f args=>
   obtain⟨e1,hc⟩:=h3;rw[e1];exact⟨λhd=>(by cases hd),CallsIn.inRound l₀ (iQ.2 (hc.mono λe w'' hh=>by
    obtain⟨he,hw''⟩:=hh;subst he;exact h _ _ hw'' h2))⟩
 |halt x w'=>simp only[Oper.quietUpon]at h3
theorem U6{i:Nat}{a:Act}{K:Act->Prop}{K':Act->World->Prop}{Q':Exit->Act->World->Prop}{w:World}(hnd:JQ ops=true)(hC:C w)(h:∀a w',C w'->K a->K' a w')
  (hh:qOp P ops C i K a):wpOpIn (Fence.wide.inRound l₀) n P ops Q' i K' a w:=by
 unfold qOp at hh
 unfold wpOpIn;split
 ·rename_i ho;simp only[ho]at hh;exact h _ _ hC hh
 ·rename_i o ho
  simp only[ho]at hh
  split
  ·rename_i hw;simp only[hw,uf]at hh;exact U7 (VI hnd ho) hC h hh
  ·rename_i hw;simp only[hw]at hh;exact⟨λ_ _=>trivial,h _ _ hC hh⟩
theorem JE{Q:Act->Prop}{Q':Exit->Act->World->Prop}(hnd:JQ ops=true)(hQ:∀a w,C w->Q a->Q' .normal a w):∀(fuel:Nat) (dJ:Array Bool) (a:Act) (w:World),C w->
  wpAnyQ P md ops C Q fuel dJ a->wpAnyIn (Fence.wide.inRound l₀) n P md ops Q' fuel dJ a w
 |0,_,_,_,hw,h=>⟨h.1,hQ _ _ hw h.2⟩
 |fuel+1,_,_,_,hw,h=>⟨λh0=>hQ _ _ hw (h.1 h0),λi hi=>U6 hnd hw (λa' w' hw'=>JE hnd hQ fuel _ a' w' hw') (h.2 i hi)⟩
theorem Qh{id:Nat}{Q:Exit->Act->World->Prop}{a:Act}{w:World}(hnd:JQ ops=true)(hm:P.follows .mixedOrders=true)(hB:Region.lexB .any ops=true)(hC:C {w with drawn:=w.drawn+1})
  (h:wpQuiet P ops C (λa'=>∀w',C w'->Q .normal a' w') ops.toList a):(Code.region id ops true).wpIn (Fence.wide.inRound l₀) n P Q a w:=by
 simp only[Region.lexB,bG]at hB
 refine wpIn_region_any hm (JE (Q:=λa'=>∀w',C w'->Q .normal a' w') hnd (λ_ w' hw' h=>h w' hw') _ _ _ _ hC ?_)
 have:=wpAnyQ_lex (C:=C) (md:=.any) hB.1 ops.toList 0 (Array.replicate ops.size false) a (by simp) (by simpa using hB.2) h
 simpa using this
theorem uI{id:Nat}{Q:Exit->Act->World->Prop}{a:Act}{w:World}{l:List Oper}(hnd:JQ l.toArray=true)(hm:P.follows .mixedOrders=true)(hB:Region.lexB .any l.toArray=true)
  (h:wpQuiet P l.toArray (λw'=>∃p:GB,w'=wld w p.d p.os) (λa'=>∀w',(∃p:GB,w'=wld w p.d p.os)->Q .normal a' w') l a):(Code.region id l.toArray true).wpIn (Fence.wide.inRound l₀) n P Q a w:=
 Qh (C:=λw'=>∃p:GB,w'=wld w p.d p.os) hnd hm hB ⟨⟨w.drawn+1,#[]⟩,by simp[wld]⟩ (by simpa using h)
end
theorem XB{ops:Array Oper}{rest:List Oper}{o:Oper}{a:Act}{w:World}{Q:Exit->Act->World->Prop}{aO b l₀ n0:Nat}{t:TypeId}{cs:List Value}{V:SV}
  (hgd:o.guard=none) (x y:Operand) (ho:o.op=.store 29 x y) (hn:o.dst=none) (A:Option Addr) (n c:Nat) {V':SV} {s':aJ} (hk:iV w b t (V.cells++cs)) (hO:dK w aO V' s') (hT:jcQ t) (hV:V'.cells++cs=(V.cells++cs).set 3 (.slice A n c))
  (hx:a.eval x=.pointer (some ⟨b,3,none⟩)) (hy:a.eval y=.slice A n c) (h:∀w',Bx w' aO b t cs V' s'->Step (·=b) w w'->wpListIn (Fence.wide.inRound l₀) n0 prog ops Q rest a w'):wpListIn (Fence.wide.inRound l₀) n0 prog ops Q (o::rest) a w:=
 wpListIn_plain hgd λK hK=>by
  obtain⟨h1,h2⟩:=Bx.set' hk hO hT 3 (.slice A n c) hV;have h3:=h _ h1 (.jR h2 λk hk=>by injection hk with hk;exact hk.symm)
  have hc:w.cell? ⟨b,3,none⟩=some V.aF:=hk.cell rfl;have hf:=hk.frozen 3;clear h hk hO h1 h2 hV;unfold Oper.wpIn;refine⟨λ_ _=>trivial,?_⟩
  rw[Oper.semAt_plain _ _ _ (λc=>by rw[ho];intro e;cases e)]
  simp only[execOp,ho,hx,hy];go_simp
  rw[hn]at*
  exact hK _ _ h3
end Wh
namespace Wh
open Go Go.RowKit Go.Shelf Go.Proofs Tryz
attribute [local go_sem] aT
attribute [local go_sem] Oper.semAt_some
abbrev FX(p:dA)(f:Bool):Type:={x:Nat // x<p.bQ.length/\(l9 p.bQ x).front=f}
def qB(p:dA)(f:Bool):Nat->List (FX p f)
 |0=>[]
 |k+1=>if h:k<p.bQ.length/\(l9 p.bQ k).front=f then qB p f k++[(⟨k,h⟩:FX p f)]else qB p f k
theorem Qr{p:dA}{f:Bool}{k:Nat}(h1:k<p.bQ.length)(h2:(l9 p.bQ k).front=f):qB p f (k+1)=qB p f k++[⟨k,h1,h2⟩]:=by
 show(if h:k<p.bQ.length/\(l9 p.bQ k).front=f then qB p f k++[(⟨k,h⟩:FX p f)]else qB p f k)=_
 rw[dif_pos ⟨h1,h2⟩]
theorem YO{p:dA}{f:Bool}{k:Nat}(h:(l9 p.bQ k).front≠f):qB p f (k+1)=qB p f k:=by
 show(if h:k<p.bQ.length/\(l9 p.bQ k).front=f then qB p f k++[(⟨k,h⟩:FX p f)]else qB p f k)=_
 rw[dif_neg (λhh=>h hh.2)]
theorem Qs(p:dA)(f:Bool):∀k,k<=p.bQ.length->(qB p f k).map Subtype.val=uT p f k
 |0,_=>rfl
 |k+1,hk=>by
  have ih:=Qs p f k (by omega)
  by_cases hf:(l9 p.bQ k).front=f
  ·rw[Qr (by omega) hf,EO hf,fJ,ih]
   rfl
  ·rw[YO hf,Gi hf,ih]
theorem PV(p:dA)(f:Bool):∀k,(qB p f k).length<=k
 |0=>au _
 |k+1=>by
  have ih:=PV p f k;show(if h:k<p.bQ.length/\(l9 p.bQ k).front=f then qB p f k++[(⟨k,h⟩:FX p f)]else qB p f k).length<=k+1
  split
  ·rw[aZ,pX];omega
  ·omega
theorem Qu(p:dA)(f:Bool):∀n k,k<=n->∃r,qB p f n=qB p f k++r
 |0,k,h=>by
  obtain rfl:k=0:=by omega
  exact⟨[],rfl⟩
 |n+1,k,h=>by
  by_cases he:k=n+1
  ·exact⟨[],by rw[he,iJ]⟩
  ·obtain⟨r,hr⟩:=Qu p f n k (by omega)
   by_cases hh:n<p.bQ.length/\(l9 p.bQ n).front=f
   ·exact⟨r++[⟨n,hh⟩],by rw[Qr hh.1 hh.2,hr,eH]⟩
   ·refine⟨r,?_⟩
    rw[<- hr];show(if h:n<p.bQ.length/\(l9 p.bQ n).front=f then qB p f n++[(⟨n,h⟩:FX p f)]else qB p f n)=_
    rw[dif_neg hh]
theorem jgF(F:Fence)(n:Nat)(h7:F.fn 156)(hro:F.round=none)(hn:1<=n)(l Bp Bf n₀:Nat)(p:dA)(f:Bool)(Ab As:Option Addr)(cb cs:Nat)(hlb:p.bQ.length<=6)(J Jx:List (FX p f)->World->Prop)
  (hY:∀(pre:List (FX p f)) (x:FX p f) W,J pre W->pre.length<p.bQ.length->YieldAt F (n - 1) prog l #[.int .i64 ((x.1:Nat):Int)] W λe W'=>
   (e=.returned (.bool true)/\J (pre++[x]) W'/\KpB n₀ Bf W W')\/(e=.returned (.bool false)/\Jx (pre++[x]) W'))
  (W:World) (hn0:n₀<=W.heap.size) (hJ:AbidesFrom W.heap.size J) (hBf:Bf<W.heap.size) (hp0:W.cell? ⟨Bp,0,none⟩=some (.slice Ab p.bQ.length cb)) (_:W.cell? ⟨Bp,1,none⟩=some (.slice As p.aP.length cs))
  (hf:W.cell? ⟨Bf,0,none⟩=some (.bool f)) (hA:At W n₀ Ab (p.bQ.flatMap PG)) (h0:J [] W):
  CallsIn F n prog 156 #[.func (.yield l) #[] #[],.pointer (some ⟨Bp,0,none⟩),.pointer (some ⟨Bf,0,none⟩)] W λe W'=>(∃v,e=.returned v)/\
   ((∃ys,ys=qB p f p.bQ.length/\J ys W')\/(∃pre,(∃k,k<=p.bQ.length/\pre=qB p f k)/\Jx pre W')):=by
 refine qQ func156 rfl h7 ?_ hro
 simp only[ntmps156,jP,dw,dY,Nat.reduceAdd,Nat.reduceSub,jG,jF,kF,jO,iy,jK];gi_wp2
 gi_loopw [9] (λi wr=>∃k:Nat,k<=p.bQ.length/\i=.int .i64 k/\J (qB p f k) wr/\KpB n₀ Bf W wr)
  (λi _=>p.bQ.length - (RowKit.intOf i).toNat)
 case atStart=>exact⟨0,aK _,rfl,h0,aj _ _,rfl⟩
 case round=>
  obtain⟨k,hk,rfl,hJs,hnx,hnf⟩:=hrel;by_cases hlt:k<p.bQ.length
  ·obtain⟨hok,LG,b0,b1,b2,b3⟩:=(hA.up hnx (au _)).bin hlt;have g0:=hnf.trans hf;have hBw:Bf<wr.heap.size:=by have:=hnx.size;omega
   have hJa:=hJ _ _ _ none hJs (oJ wr (.cells #[.bool (l9 p.bQ k).front,.int .i64 (l9 p.bQ k).room,.int .i64 (l9 p.bQ k).low,.int .i64 (l9 p.bQ k).high] 125) none) (λr h=>by cases h)
   have hBa:Below n₀ wr (wr.alloc (.cells #[.bool (l9 p.bQ k).front,.int .i64 (l9 p.bQ k).room,.int .i64 (l9 p.bQ k).low,.int .i64 (l9 p.bQ k).high] 125)):=(aj _ _).alloc (by have:=hnx.size;omega) _
   have hca:(wr.alloc (.cells #[.bool (l9 p.bQ k).front,.int .i64 (l9 p.bQ k).room,.int .i64 (l9 p.bQ k).low,.int .i64 (l9 p.bQ k).high] 125)).cell? ⟨Bf,0,none⟩=wr.cell? ⟨Bf,0,none⟩:=
    ((aj wr.heap.size wr).alloc (au _) _).cell (p:=⟨Bf,0,none⟩) hBw
   cases hfr:((l9 p.bQ k).front==f)
   ·have hno:=YO (p:=p) (f:=f) (k:=k) (by simpa using hfr)
    gi_wp2
    refine⟨λ_ h=>(by cases h),?_⟩
    gi_wp2
    go_roundw
    case rel=>exact⟨k+1,by omega,by simp,by rw[hno];exact hJa,hnx.trans hBa,hca.trans hnf⟩
    case measure=>simp[RowKit.intOf];omega
   ·have hfk:=ah (show(l9 p.bQ k).front=f by simpa using hfr)
    have hyes:=Qr hlt hfk.O;obtain⟨fn,tmps,assign,body,hy,hR⟩:YieldAt F (n - 1) prog l #[.int .i64 ((k:Nat):Int)] _ _:=hY _ ⟨k,hlt,hfk.O⟩ _ hJa (by have:=PV p f k;omega)
    gi_wp2
    refine hR.mono ?_
    rintro e W3 (⟨rfl,hJ3,hk3⟩|⟨rfl,hJx3⟩)
    ·gi_wp2
     go_roundw
     case rel=>exact⟨k+1,by omega,by simp,by rw[hyes];exact hJ3,(hnx.trans hBa).trans hk3.1,(hk3.2.trans hca).trans hnf⟩
     case measure=>simp[RowKit.intOf];omega
    ·gi_wp2
     refine fD (xk rfl _ _ _) rfl ?_
     exact⟨⟨_,rfl⟩,.inr ⟨_,⟨k+1,by omega,hyes.symm⟩,hJx3⟩⟩
  ·obtain rfl:k=p.bQ.length:=by omega
   gi_wp2
   go_end0
   exact⟨⟨_,rfl⟩,.inl ⟨_,rfl,hJs⟩⟩
theorem Um(F:Fence)(n:Nat)(h7:F.fn 156)(hro:F.round=none)(hn:1<=n)(Bp Bf n₀:Nat)(p:dA)(f:Bool)(Ab As:Option Addr)(cb cs:Nat)(hlb:p.bQ.length<=6)(w:World)(hn0:n₀<=w.heap.size)(hBp:Bp<w.heap.size)(hBf:Bf<w.heap.size)
  (hp0:w.cell? ⟨Bp,0,none⟩=some (.slice Ab p.bQ.length cb)) (hp1:w.cell? ⟨Bp,1,none⟩=some (.slice As p.aP.length cs)) (hf:w.cell? ⟨Bf,0,none⟩=some (.bool f)) (hA:At w n₀ Ab (p.bQ.flatMap PG)):
  SeqStopsK F n prog 156 #[.pointer (some ⟨Bp,0,none⟩),.pointer (some ⟨Bf,0,none⟩)] (λx:FX p f=>#[Value.int .i64 ((x.1:Nat):Int)]) (KpB n₀ Bf) (λys=>ys=qB p f p.bQ.length) (λpre=>∃k,k<=p.bQ.length/\pre=qB p f k) p.bQ.length w:=λl J Jx W hW hJ _ hY h0=>
 jgF F n h7 hro hn l Bp Bf n₀ p f Ab As cb cs hlb J Jx hY W (aY hn0 hW.size) hJ (aI hBf hW.size) ((hW.cell (p:=⟨Bp,0,none⟩) hBp).trans hp0) ((hW.cell (p:=⟨Bp,1,none⟩) hBp).trans hp1)
  ((hW.cell (p:=⟨Bf,0,none⟩) hBf).trans hf) (hA.up (hW.mono hn0) (au _)) h0
section
variable {w w':World} {aO:Nat}
theorem Own.wB{α:Type}{enc:α->List Value}{size:Nat}{e:TypeId}{v:Value}{l:List α}{row:Option Nat}(h:Own enc size e w aO v l)(hg:w.grownBy w' row)(hr:∀r,row=some r->∃o:Obj,w.heap[r]?=some o/\o.isCells=false):Own enc size e w' aO v l:=by
 refine h.kept hg ?_
 cases hv:v.ownBlock with
 |none=>exact .inl rfl
 |some g=>
  refine .inr λhe=>?_
  obtain⟨cur,hc⟩:=h.block hv;obtain⟨o,ho,hn⟩:=hr g he.symm;rw[hc]at ho
  injection ho with ho
  subst ho;cases hn
theorem dK.wB{V:SV}{s:aJ}{row:Option Nat}(h:dK w aO V s)(hg:w.grownBy w' row)(hr:∀r,row=some r->∃o:Obj,w.heap[r]?=some o/\o.isCells=false):dK w' aO V s:=
 ⟨h.on.wB hg hr,h.rlen,λb hlt=>(h.row b hlt).wB hg hr,h.ak.wB hg hr,h.llen,λo ho=>(h.aG o ho).wB hg hr,h.aA.wB hg hr,h.aF.wB hg hr,h.gY.wB hg hr,h.O.wB hg hr,h.bg.wB hg hr,h.apart,h.yS⟩
theorem Bx.wB{b:Nat}{t:TypeId}{rest:List Value}{V:SV}{s:aJ}{row:Option Nat}(h:Bx w aO b t rest V s)(hg:w.grownBy w' row)(hr:∀r,row=some r->∃o:Obj,w.heap[r]?=some o/\o.isCells=false):Bx w' aO b t rest V s:=by
 refine⟨h.box.grown hg λhe=>?_,h.own.wB hg hr,h.ty⟩
 obtain⟨o,ho,hn⟩:=hr b he.symm;have hb:w.heap[b]?=_:=h.box;rw[hb]at ho
 injection ho with ho
 subst ho;cases hn
end
end Wh
