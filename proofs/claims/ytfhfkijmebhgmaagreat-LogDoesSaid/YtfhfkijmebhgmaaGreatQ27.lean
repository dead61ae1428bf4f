/- Texts of the claim, joined. -/
import Derived.Sort.QuietThIn
import Derived.OwnWalkIn
import Derived.RangeFuncCalls
import Derived.Test.YtfhfkijmebhgmaaGreatQ26
import Derived.Test.YtfhfkijmebhgmaaGreatQ05
set_option maxHeartbeats 20000000
set_option maxRecDepth 100000
namespace Wh
open Go Go.RowKit Go.Shelf Go.Proofs Tryz
attribute [local go_sem] au dQ dI dX
theorem drop_zero {l:List Hold} {o k b:Int} (hok:bQ l=true) (h:aF l o k b=0):drop l o k b=([],0,4):=by
 unfold drop;rw [hok,ah (by simp),ak h]
theorem jd0 {l:List Hold} {o k b:Int} (hok:bQ l=true) (h:aF l o k b≠0):drop l o k b=(dA l ⟨o,k,b,0⟩,aF l o k b,0):=by
 unfold drop;rw [hok,ah (by simp),ah h]
theorem Zg {l x:List Hold} {o ln b m c:Int} (h:drop l o ln b=(x,m,c)) (w:World) (v:Value) (hv:Sl bM w w.heap.size v l):
  Calls prog 101 #[v,.int .i64 o,.int .i64 ln,.int .i64 b] w fun e w'=>∃ u,e=.returned (.tuple #[u,.int .i64 m,.int .i64 c])∧Own bM 4 46 w' w.heap.size u x∧Below w.heap.size w w':=by
 have:=jk6 w v l o ln b hv;unfold jaf at this
 rw [h] at this
 exact this
theorem TA (s:State) (i j:Nat) (y z:Line) (hi:i<s.orders.length):(s.fG i j y).fG i j z=s.fG i j z:=by
 unfold State.fG;simp only;have h:State.order {s with orders:=s.orders.set i {s.order i with lines:=(s.order i).lines.set j y}} i={s.order i with lines:=(s.order i).lines.set j y}:=by
  unfold State.order;rw [vZ hi,ak rfl]
 rw [h];simp only [PD]
theorem VP {s:State} {i j c:Nat} {n held:Int} (hi:i<s.orders.length) (y:Line):
  ((preS s i j c n).fG i j y).fG i j {s.line i j with got:=(s.line i j).got+n,back:=(s.line i j).back+(held - n)}=picked s i j c held n:=by
 rw [TA (preS s i j c n) i j _ _ hi,UC,show (s.line i j).back+(held - n)=(s.line i j).back+held - n by omega]
theorem jhT (x:Line) (W:World):Calls prog 102 #[BL x] W fun e W'=>e=.returned (.bool (decide (x.got<x.want)))∧Below W.heap.size W W':=by
 have hb0:Below W.heap.size W (W.alloc (.cells #[.int .i64 (x).good,.int .i64 (x).want,.int .i64 (x).got,.int .i64 (x).back] 44)):=(aj _ _).alloc (aA _) _;unfold BL;go_enter func102,ntmps102
 go_wp2_with fail;go_ret
 exact ⟨rfl,hb0⟩
theorem TW:Enters prog 102:=enters_of func102 (by kernel_rfl) rfl
theorem jkc (w:World) (v vs:Value) (p:Plan) (s:State) (o k b n:Int) (hp:fZ w w.heap.size v p) (hv:fE w w.heap.size vs s):
  Calls prog 48 #[v,vs,.int .i64 o,.int .i64 k,.int .i64 b,.int .i64 n] w (gU (pick p s o k b n) w):=by
 obtain ⟨Ab,cb,As,cs,rfl,hP',hBn,hSz,hlb,hls⟩:=kN hp;obtain ⟨A0,c0,A1,c1,A2,c2,A3,c3,A4,c4,A5,c5,A6,c6,rfl,hV,hN,hO,hH,hM,hI,hU,hX,hl0,hl1,hl2,hl3,hl4,hl5,CW⟩:=iG hv;go_enter func48,ntmps48
 go_wp2_with fail;obtain ⟨W0,hW0,hb0,hsz0,hsz1,hsE,hK,hR⟩:=oH w p s Ab cb As cs A0 c0 A1 c1 A2 c2 A3 c3 A4 c4 A5 c5 A6 c6;rw [hW0];clear hW0;obtain ⟨⟨y0,y1⟩,x0,x1,x2,x3,x4,x5,x6,aV,aW⟩:=hK.out W0 (aj W0.heap.size W0);go_wp2_with fail;clear y0 y1 x0 x1 x2 x3 x4 x5 x6 aV aW;refine (G8 _ _ _ p s (hP'.out _ hb0) (hV.out _ hb0)).mono ?_
 rintro e W1 ⟨rfl,h1⟩;have hB1:=hb0.trans (h1.mono hb0.size);obtain ⟨⟨y0,y1⟩,x0,x1,x2,x3,x4,x5,x6,aV,aW⟩:=hK.out W1 (h1);by_cases hc:checkState p s=0
 ·have hc':=Lib.hid hc;have hsn:=Lib.hid (dV.1 hc).1;rw [hc];clear hc;by_cases hk0:aF s.holds o k b=0
  ·have hfin:=Lib.hid (UD (n:=n) hc'.out hk0);have hdr:=Lib.hid (drop_zero hsn.out.holds hk0);clear hk0;go_wp2_with fail;clear y0 y1 x0 x1 x2 x3 x4 x5 x6 aV aW;refine (Zg hdr.out _ _ (hH.out _ hB1)).mono ?_
   rintro e W2 ⟨u,rfl,hu,h2⟩;have h02:=h1.trans (h2.mono h1.size);have hB2:=hb0.trans (h02.mono hb0.size);have aX:=hR.out _ h02;go_wp2_with (refine aK (.tmp 12) (.tmp 40) aP aP rfl aX rfl rfl (fun w9 aN dh=>?_))
   have aQ:=Below.bG hB2 dh;go_wp2_with fail;exact dn results48 aN rfl rfl (dF hfin.out aQ)
  have hdr:=Lib.hid (jd0 hsn.out.holds hk0);have hk0':=Lib.hid hk0;have hpos:=wY (bC.1 hsn.out.holds).1 (bC.1 hsn.out.holds).2 o k b;clear hk0;go_wp2_with fail;clear y0 y1 x0 x1 x2 x3 x4 x5 x6 aV aW;refine (Zg hdr.out _ _ (hH.out _ hB1)).mono ?_
  rintro e W2 ⟨u,rfl,hu,h2⟩;have h02:=h1.trans (h2.mono h1.size);have hB2:=hb0.trans (h02.mono hb0.size);have hle:w.heap.size≤W1.heap.size:=hB1.size;obtain ⟨A7,c7,rfl⟩:=hu.isSlice;have hu2:=Lib.hid hu;have hle0:W0.heap.size≤W1.heap.size:=h1.size;have hle2:W1.heap.size≤W2.heap.size:=h2.size;clear hu h2 h1 hB1;obtain ⟨⟨y0,y1⟩,x0,x1,x2,x3,x4,x5,x6,aV,aW⟩:=hK.out W2 (h02);by_cases g1:n<0
  ·have hfin:=Lib.hid (J3 hc'.out hk0'.out (.inl g1));clear hu2;have aX:=hR.out _ h02;go_wp2_with (refine aK (.tmp 12) (.tmp 49) aP aP rfl aX rfl rfl (fun w9 aN dh=>?_))
   have aQ:=Below.bG hB2 dh;go_wp2_with fail;exact dn results48 aN rfl rfl (dF hfin.out aQ)
  by_cases g2:aF s.holds o k b<n
  ·have hfin:=Lib.hid (J3 hc'.out hk0'.out (.inr g2));clear hu2;have aX:=hR.out _ h02;go_wp2_with (refine aK (.tmp 12) (.tmp 49) aP aP rfl aX rfl rfl (fun w9 aN dh=>?_))
   have aQ:=Below.bG hB2 dh;go_wp2_with fail;exact dn results48 aN rfl rfl (dF hfin.out aQ)
  obtain ⟨i,j,c,rfl,rfl,rfl,hi,hj,hcb,hh1,hh2,hpk⟩:=jcp hc'.out hk0'.out (n:=n) ⟨by omega,by omega⟩
  have hpk':=Lib.hid hpk;have hn0:0≤n∧n≤aF s.holds i j c:=⟨by omega,by omega⟩
  clear hpk hk0' hdr hpos;go_wp2_with fail;clear y0 y1 x0 x1 x2 x3 x4 x5 x6 aV aW;refine (Yg _ _ p s (hV.out _ hB2) hsn.out).mono ?_
  rintro e W5 ⟨_,rfl,⟨V5,rfl,qK⟩,h5⟩;have jc:=(qK).one;have nK:=pV (W5);go_wp2_with (refine aK (.tmp 18) (.tmp 51) aP V5 rfl nK rfl jc (fun w6 fH zO=>?_);refine aU ?_)
  unfold Hid;have jO:=jK zO;have lQ:=fH.lt;clear jc nK zO;have h26:=h5.trans (jO.mono h5.size);have hx6:=Lib.hid ((Bx.of fH (qK.below jO)).from_ hle2);have hu6:=Lib.hid (hu2.out.below h26);have h06:=h02.trans (h26.mono h02.size);have qp:W1.heap.size≤W5.heap.size:=bJ hle2 h5.size;clear fH qK jO h5 lQ h02 hB2 h26 hu2 hle2;generalize W1.heap.size=base at hx6 hle hle0 qp hu6
  generalize W5.heap.size=bx at hx6 qp ⊢
  have hg0:=(hsn.out.line hi hj).1;obtain ⟨g,hg⟩:∃ g:Nat,(s.line i j).good=(g:Int):=⟨(s.line i j).good.toNat,by omega⟩
  have hgt:(s.line i j).good.toNat=g:=by omega
  have WI:g<p.sizes.length:=by omega
  have hgo:g<s.out.length:=by rw [hsn.out.out.1];exact WI
  have jqy:(g:Int)<(s.out.length:Int):=by omega
  have o1:=hsn.out.out.2 WI;have hwo:IntKind.i64.wrap (aC s.out g+n)=aC s.out g+n:=bf _ (by omega)
  have hi':(i:Int)<s.orders.length:=by omega
  have hj':(j:Int)<((s.order i).lines.length:Int):=by omega
  rw [hgt] at hpk'
  obtain ⟨go,co,jg5,eo,jqz,Ib,z0,z1⟩:=hx6.out.own.ay (o:=i) hi;obtain ⟨gl,cl,curl,e1,hgl,hblk,f0,f1,f2,f3⟩:=hx6.out.own.bH (o:=i) (k:=j) hi hj;obtain ⟨gu,cu,jrw,eu,hgu,hbu,ru⟩:=aO.qX hx6.out.own.out (g:=g) hgo;obtain ⟨c0,c1,c2,c3,c4,c5,c6⟩:=hx6.out.cells;rw [eo] at c1
  rw [e1] at z1
  rw [eu] at c5
  rw [hg] at f0
  have e1':=Lib.hid e1;have eo':=Lib.hid eo;have eu':=Lib.hid eu;clear e1 eo eu hblk Ib hbu z0 f1 f2 f3;by_cases hm:1048576<aC s.out g+n
  ·have hfin:=Lib.hid (show pick p s i j c n=(dJ,2) by rw [hpk'.out,ak hm])
   go_wp2_with fail;go_quiet (fail)
   have Gi:=below_drewN h06 nq;have hBd:=hb0.trans (Gi.mono hb0.size);clear c0 c1 c2 c3 c4 c5 c6 z1 f0 ru hx6 hu6;generalize w6.drewN nq=w7 at Gi hBd ⊢
   have aX:=hR.out _ Gi;go_wp2_with (refine aK (.tmp 12) (.tmp 73) aP aP rfl aX rfl rfl (fun w9 aN dh=>?_))
   have aQ:=Below.bG hBd dh;go_wp2_with fail;exact dn results48 aN rfl rfl (dF hfin.out aQ)
  have hmd:=iU hm;have hfin:=Lib.hid (show pick p s i j c n=(qx p s i j c n,0) by rw [hpk'.out,ah hm])
  have hF:=Lib.hid (show xH p s i j c n from ⟨hi,hj,hcb,hh1,hn0.1,hn0.2,by rw [hgt];omega⟩)
  go_wp2_with fail;go_quiet (fail)
  have hd7:=below_drewN (aj w6.heap.size w6) nq;have hx7:=Lib.hid (hx6.out.below hd7);have hu7:=Lib.hid (hu6.out.below hd7);have h07:=h06.trans (hd7.mono h06.size);clear c0 c1 c2 c3 c4 c5 c6 z1 f0 ru hx6 hu6 hd7 h06 hpk' hmd hm;generalize w6.drewN nq=w7 at hx7 hu7 h07 ⊢
  go_wp2_with (refine zk rfl (.tmp 75) (.tmp 74) rfl rfl A7 _ c7 _ hx7.out rfl rfl hu7.out (fun w8 EF qJ=>?_);refine aU ?_)
  unfold Hid;have ug:=h07.trans (qJ.below (B:=W0.heap.size) (fun q hq=>by omega) h07.size)
  have lN:=Lib.hid EF;have e19:=Lib.hid (show ({V5 with holds:=.slice A7 (dA s.holds ⟨i,j,c,0⟩).length c7}:SV).line i=.slice (some ⟨gl,0,none⟩) (s.order i).lines.length cl from e1'.out)
  have eo9:=Lib.hid (show ({V5 with holds:=.slice A7 (dA s.holds ⟨i,j,c,0⟩).length c7}:SV).orders=.slice (some ⟨go,0,none⟩) s.orders.length co from eo'.out)
  clear EF qJ hx7 hu7 h07 e1' eo' eu';generalize ({V5 with holds:=.slice A7 (dA s.holds ⟨i,j,c,0⟩).length c7}:SV)=V9 at lN e19 eo9
  have hco:c<s.on.length:=by rw [hsn.out.ku];exact hcb
  have hci:(c:Int)<(s.on.length:Int):=by omega
  have hgr:g<(rowAt s.on c).length:=by rw [hsn.out.rowLen hcb];exact WI
  have jin:(g:Int)<((rowAt s.on c).length:Int):=by omega
  have jqI:=hsn.out.cell hcb WI;have hw1:IntKind.i64.wrap (cell s.on c g - n)=cell s.on c g - n:=bf _ (by omega)
  obtain ⟨zS,con,Ju,gr,cr,cur,Ip,Ri,Ia,r0,er,Rh,hbr,rc⟩:=lN.out.own.Jr hco hgr;change w8.cell? _=some (.int .i64 (cell s.on c g)) at rc
  change w8.cell? _=some (.slice _ (rowAt s.on c).length _) at r0
  change V9.on=.slice _ s.on.length _ at Ip
  obtain ⟨_,f0,_⟩:=lN.out.own.jV (o:=i) (k:=j) hi hj e19.out;change w8.cell? _=some (.int .i64 (s.line i j).good) at f0
  rw [hg] at f0
  obtain ⟨c0,_⟩:=lN.out.cells;rw [Ip] at c0
  have er':=Lib.hid er;clear Ip er Ia hbr;go_wp2_with fail;go_still_tail 14,(by kernel_rfl)
  change wpList _ _ _ _ _ w8.drew;refine zi rfl (.tmp 89) (.tmp 88) rfl rfl (i:=c) (g:=g) (q:=cell s.on c g - n) lN.out.drew hco hgr er'.out rfl rfl (fun w9 qj mQ=>?_)
  refine gy ?_
  have h09:=ug.drew.trans (mQ.below (B:=W0.heap.size) (fun q hq=>by omega) ug.drew.size)
  have sQ:=Lib.hid (show Bx w9 base bx 31 [] V9 {Xn s c g n with holds:=dA s.holds ⟨i,j,c,0⟩} from qj)
  clear qj mQ c0 f0 r0 rc hw1 lN ug er';obtain ⟨gu2,cu2,curu2,eu2,hgu2,jqM,ru⟩:=aO.qX sQ.out.own.out (g:=g) hgo;change w9.cell? _=some (.int .i64 (aC s.out g)) at ru
  change V9.out=.slice _ s.out.length _ at eu2
  obtain ⟨_,f0,_⟩:=sQ.out.own.jV (o:=i) (k:=j) hi hj e19.out;change w9.cell? _=some (.int .i64 (s.line i j).good) at f0
  rw [hg] at f0
  obtain ⟨_,_,_,_,_,c5,_⟩:=sQ.out.cells;rw [eu2] at c5
  have eu':=Lib.hid eu2;clear eu2 jqM;go_wp2_with fail;go_still_tail 11,(by kernel_rfl)
  change wpList _ _ _ _ _ w9.drew;refine Uh rfl (.tmp 100) (.tmp 99) rfl rfl (g:=g) (q:=aC s.out g+n) sQ.out.drew hgo eu'.out rfl rfl (fun w10 tJ nJ=>?_)
  refine gy ?_
  have h010:=h09.drew.trans (nJ.below (B:=W0.heap.size) (fun q hq=>by omega) h09.drew.size)
  have jQ:=Lib.hid (show Bx w10 base bx 31 [] V9 (preS s i j c n) by rw [← je4 hgt];exact tJ)
  clear tJ nJ c5 f0 ru sQ h09 eu';have hln:=(hsn.out.line hi hj).2;obtain ⟨gd,wt,gt,bk,hxl⟩:∃ gd wt gt bk,s.line i j=⟨gd,wt,gt,bk⟩:=⟨_,_,_,_,rfl⟩;rw [hxl] at hln hg
  have Wy:=Lib.hid hxl;simp only at hln hg
  subst hg;obtain ⟨held,MH⟩:∃ x,aF s.holds i j c=x:=⟨_,rfl⟩;rw [MH] at hh1 hh2 hn0
  have Kr:=Lib.hid MH;have hw2:IntKind.i64.wrap (gt+n)=gt+n:=bf _ (by omega)
  have hw5:IntKind.i64.wrap (held - n)=held - n:=bf _ (by omega)
  have hw4:IntKind.i64.wrap (bk+(held - n))=bk+(held - n):=bf _ (by omega)
  obtain ⟨_,f0,f1,f2,f3⟩:=jQ.out.own.jV (o:=i) (k:=j) hi hj e19.out;change w10.cell? _=some (.int .i64 (s.line i j).got) at f2
  rw [hxl] at f2
  rw [MH];clear MH f0 f1 f3 hxl;go_wp2_with (refine qF rfl (.tmp 108) (.tmp 106) rfl rfl (i:=i) (k:=j) (j:=2) (y:=⟨g,wt,gt+n,bk⟩) jQ.out hi hj e19.out (by decide) (show eP ⟨g,wt,gt+n,bk⟩=(eP (s.line i j)).set 2 (.int .i64 (gt+n)) by rw [Wy.out];rfl) rfl rfl (fun w11 TN jjn=>?_);refine aU ?_)
  unfold Hid;have h011:=h010.trans (jjn.below (B:=W0.heap.size) (fun q hq=>by omega) h010.size)
  have jfu:=Lib.hid TN;have jkU:=Lib.hid (show ((preS s i j c n).fG i j ⟨g,wt,gt+n,bk⟩).line i j=⟨g,wt,gt+n,bk⟩ by rw [Fp (s:=preS s i j c n) hi hj,ak ⟨rfl,rfl⟩])
  have jk0:i<((preS s i j c n).fG i j ⟨g,wt,gt+n,bk⟩).orders.length:=by rw [BR];exact hi
  have jkY:j<(((preS s i j c n).fG i j ⟨g,wt,gt+n,bk⟩).order i).lines.length:=by rw [DT (s:=preS s i j c n) hi];exact hj
  clear TN jjn f2 jQ h010 hw2;obtain ⟨_,f0,f1,f2,f3⟩:=jfu.out.own.jV jk0 jkY e19.out;rw [jkU.out] at f3
  clear f0 f1 f2;go_wp2_with (refine qF rfl (.tmp 118) (.tmp 116) rfl rfl (i:=i) (k:=j) (j:=3) (y:=⟨g,wt,gt+n,bk+(held - n)⟩) jfu.out jk0 jkY e19.out (by decide) (by rw [jkU.out];rfl) rfl rfl (fun w12 jft hst12=>?_);refine aU ?_)
  unfold Hid;have h012:=h011.trans (hst12.below (B:=W0.heap.size) (fun q hq=>by omega) h011.size)
  have Hy:=Lib.hid (show Bx w12 base bx 31 [] V9 (picked s i j c held n) by rw [← VP (s:=s) (n:=n) (held:=held) (c:=c) (j:=j) hi ⟨g,wt,gt+n,bk⟩,Wy.out];exact jft)
  clear jft hst12 f3 jfu h011 hw4 jkU jk0 jkY;have jfI:=Lib.hid (show Right p (picked s i j c held n) by rw [← Kr.out];exact wV (cO hc'.out) hF.out)
  have jfZ:=Lib.hid (show May (picked s i j c held n) i j (held - n) by rw [← Kr.out];exact BO (cO hc'.out) hF.out)
  have jgM:=hb0.trans (h012.mono hb0.size);obtain ⟨⟨y0,y1⟩,x0,x1,x2,x3,x4,x5,x6,aV,aW⟩:=hK.out w12 (h012);have hbs:base≤w12.heap.size:=bJ qp (nD Hy.out.lt);go_wp2_with fail;clear y0 y1 x0 x1 x2 x3 x4 x5 x6 aV aW;clear hw5;refine (jcc _ _ p _ i j (held - n) c (hP'.out _ jgM) jfI.out jfZ.out Hy.out hbs).mono ?_
  rintro e w14 ⟨rfl,V7,jnK,jfs,jjl⟩;have hge:∀ q,(q=bx∨(V9.line i).ownBlock=some q)→base≤q:=fun q hq=>by
   rcases hq with rfl|hq
   ·exact qp
   ·exact ((Hy.out.own.line i (show i<(picked s i j c held n).orders.length by rw [iF];exact hi)).size q hq).1
  have jdR:=h012.trans (jjl.below (B:=W0.heap.size) (fun q hq=>bJ hle0 (hge q hq)) h012.size)
  have Hw:=Lib.hid (show Bx w14 base bx 31 [] V7 (uf p s i j c n) by unfold uf;rw [Kr.out];exact jfs)
  have eo7:=Lib.hid (show V7.orders=.slice (some ⟨go,0,none⟩) s.orders.length co by rw [jnK];exact eo9.out)
  clear jfs jjl jnK hge Hy h012 jgM jfI jfZ eo9 e19;have hTh:=(BP (cO hc'.out) hF.out).1;have hTi:i<(uf p s i j c n).orders.length:=by rw [hTh.orders,iF];exact hi
  have hTs:=Lib.hid hTh.right.sane;have H7:=Lib.hid (show pick p s i j c n=(close (uf p s i j c n) i,0) from hfin.out)
  clear hTh hF hfin;generalize uf p s i j c n=T at Hw hTi hTs H7
  have l13:=hTs.out.jX hTi;obtain ⟨_,_,_,z1⟩:=Hw.out.own.iC hTi eo7.out;have hsl:=Lib.hid ((Hw.out.own.line i hTi).sl (by omega))
  go_wp2_with fail;clear z1;refine (nT _ _ (T.order i).lines 102 #[] (fun x=>decide (x.got<x.want)) TW hsl.out (fun j _ W hW=>jhT _ W)).mono ?_
  rintro e W15 ⟨rfl,h15⟩;rw [SQ hTs.out hTi];have hx:=Lib.hid (Hw.out.below h15);have h0r:=jdR.trans (h15.mono jdR.size);have jlw:=hb0.trans (h0r.mono hb0.size);clear hsl Hw jdR h15;cases hag:iH (T.order i)
  ·have hfin:=Lib.hid (show pick p s i j c n=(T,0) by rw [H7.out];unfold close;rw [hag];rfl)
   clear hag H7;have aX:=hR.out _ h0r;obtain ⟨b0,b1,b2,b3,b4,b5,b6⟩:=dN.cells hx.out.kW;have eU:=aO.one hx.out.own;go_wp2_with (refine aK (.tmp 12) (.tmp 136) aP V7 rfl aX rfl eU (fun w9 aN dh=>?_))
   have ng:=aO.keptBy hx.out.own dh aX (by decide) (by decide) (by decide) (by decide) (by decide) (by decide)
   have aQ:=Below.bG jlw dh;clear b0 b1 b2 b3 b4 b5 b6;go_wp2_with fail;exact dn results48 aN rfl rfl (wH hfin.out (ng.from_ hle) aQ)
  ·have hfin:=Lib.hid (show pick p s i j c n=({T with orders:=T.orders.set i {T.order i with kind:=2}},0) by rw [H7.out];unfold close;rw [hag];rfl)
   clear hag H7;obtain ⟨_,_,z0,_⟩:=hx.out.own.iC hTi eo7.out;go_wp2_with (refine xQ rfl (.tmp 135) (.const (.int .i64 2)) rfl rfl (i:=i) (q:=2) hx.out hTi eo7.out rfl rfl (fun w16 hx16 jjj=>?_);refine aU ?_)
   unfold Hid;have joZ:=h0r.trans (jjj.below (B:=W0.heap.size) (fun q hq=>by omega) h0r.size)
   have jrd:=hb0.trans (joZ.mono hb0.size);have jfq:=Lib.hid hx16;clear hx16 jjj z0;have aX:=hR.out _ joZ;obtain ⟨b0,b1,b2,b3,b4,b5,b6⟩:=dN.cells jfq.out.kW;have eU:=aO.one jfq.out.own;go_wp2_with (refine aK (.tmp 12) (.tmp 136) aP V7 rfl aX rfl eU (fun w9 aN dh=>?_))
   have ng:=aO.keptBy jfq.out.own dh aX (by decide) (by decide) (by decide) (by decide) (by decide) (by decide)
   have aQ:=Below.bG jrd dh;clear b0 b1 b2 b3 b4 b5 b6;go_wp2_with fail;exact dn results48 aN rfl rfl (wH hfin.out (ng.from_ hle) aQ)
 ·have hne:(checkState p s!=0)=true:=by simpa using hc
  have hfin:=Lib.hid (Yy (o:=o) (k:=k) (b:=b) (n:=n) hc);clear hc;have aX:=hR.out _ h1;go_wp2_with (refine aK (.tmp 12) (.tmp 26) aP aP rfl aX rfl rfl (fun w9 aN dh=>?_))
  have aQ:=Below.bG hB1 dh;go_wp2_with fail;exact dn results48 aN rfl rfl (dF hfin.out aQ)
end Wh
namespace Wh
open Go Go.RowKit Go.Shelf Go.Proofs Tryz
attribute [local go_sem] au dQ dI dX
def mv2 (s:State) (a d g:Nat) (n:Int):State:={Xn s a g n with on:=setCell (Xn s a g n).on d g (cell (Xn s a g n).on d g+n)}
theorem QH {s:State} {i a d g:Nat} {m n:Int} (h:aB s.moves i=⟨g,a,d,m⟩):({mv2 s a d g n with moves:=s.moves.eraseIdx i}:State)=qH s i n:=by
 unfold qH;rw [h];rfl
theorem jiL (w:World) (v vs:Value) (p:Plan) (s:State) (k n:Int) (hp:fZ w w.heap.size v p) (hv:fE w w.heap.size vs s):
  Calls prog 50 #[v,vs,.int .i64 k,.int .i64 n] w (gU (moved p s k n) w):=by
 obtain ⟨Ab,cb,As,cs,rfl,hP',hBn,hSz,hlb,hls⟩:=kN hp;obtain ⟨A0,c0,A1,c1,A2,c2,A3,c3,A4,c4,A5,c5,A6,c6,rfl,hV,hN,hO,hH,hM,hI,hU,hX,hl0,hl1,hl2,hl3,hl4,hl5,CW⟩:=iG hv;go_enter func50,ntmps50
 go_wp2_with fail;obtain ⟨W0,hW0,hb0,hsz0,hsz1,hsE,hK,hR⟩:=oH w p s Ab cb As cs A0 c0 A1 c1 A2 c2 A3 c3 A4 c4 A5 c5 A6 c6;rw [hW0];clear hW0;obtain ⟨⟨y0,y1⟩,x0,x1,x2,x3,x4,x5,x6,aV,aW⟩:=hK.out W0 (aj W0.heap.size W0);go_wp2_with fail;clear y0 y1 x0 x1 x2 x3 x4 x5 x6 aV aW;refine (G8 _ _ _ p s (hP'.out _ hb0) (hV.out _ hb0)).mono ?_
 rintro e W1 ⟨rfl,h1⟩;have hB1:=hb0.trans (h1.mono hb0.size);obtain ⟨⟨y0,y1⟩,x0,x1,x2,x3,x4,x5,x6,aV,aW⟩:=hK.out W1 (h1);by_cases hc:checkState p s=0
 ·have hc':=Lib.hid hc;have hsn:=Lib.hid (dV.1 hc).1;rw [hc];clear hc;by_cases g1:k<0
  ·have hfin:=Lib.hid (J4 (n:=n) hc'.out (.inl g1));have aX:=hR.out _ h1;go_wp2_with (refine aK (.tmp 8) (.tmp 29) aP aP rfl aX rfl rfl (fun w9 aN dh=>?_))
   have aQ:=Below.bG hB1 dh;go_wp2_with fail;exact dn results50 aN rfl rfl (dF hfin.out aQ)
  by_cases g2:(s.moves.length:Int)≤k
  ·have hfin:=Lib.hid (J4 (n:=n) hc'.out (.inr g2));have aX:=hR.out _ h1;go_wp2_with (refine aK (.tmp 8) (.tmp 29) aP aP rfl aX rfl rfl (fun w9 aN dh=>?_))
   have aQ:=Below.bG hB1 dh;go_wp2_with fail;exact dn results50 aN rfl rfl (dF hfin.out aQ)
  obtain ⟨i,rfl⟩:∃ i:Nat,k=i:=⟨k.toNat,by omega⟩
  have hk:i<s.moves.length:=by omega
  have hki:(i:Int)<(s.moves.length:Int):=by omega
  have h8:=hsn.out.lJ;obtain ⟨gd,sr,ds,mn,hxm⟩:∃ gd sr ds mn,aB s.moves i=⟨gd,sr,ds,mn⟩:=⟨_,_,_,_,rfl⟩;have hmv:=hsn.out.aB hk;rw [hxm] at hmv
  simp only at hmv
  obtain ⟨g,rfl⟩:∃ g:Nat,gd=g:=⟨gd.toNat,by omega⟩
  obtain ⟨a,rfl⟩:∃ a:Nat,sr=a:=⟨sr.toNat,by omega⟩
  obtain ⟨d,rfl⟩:∃ d:Nat,ds=d:=⟨ds.toNat,by omega⟩
  have WI:g<p.sizes.length:=by omega
  have hap:a<p.aH.length:=by omega
  have hdp:d<p.aH.length:=by omega
  have had:a≠d:=by omega
  have hao:a<s.on.length:=by rw [hsn.out.ku];exact hap
  have hdo:d<s.on.length:=by rw [hsn.out.ku];exact hdp
  have hga:g<(rowAt s.on a).length:=by rw [hsn.out.rowLen hap];exact WI
  have hgd:g<(rowAt s.on d).length:=by rw [hsn.out.rowLen hdp];exact WI
  have hai:(a:Int)<(s.on.length:Int):=by omega
  have hdi:(d:Int)<(s.on.length:Int):=by omega
  have jqE:(g:Int)<((rowAt s.on a).length:Int):=by omega
  have jqC:(g:Int)<((rowAt s.on d).length:Int):=by omega
  have hca:=hsn.out.cell hap WI;have hcd:=hsn.out.cell hdp WI;have MB:=Lib.hid hxm;obtain ⟨okm,lm,e0,e1,e2,e3⟩:=(hM.out W1 hB1).at_.move hk;rw [hxm] at e0 e1 e2 e3
  simp only at e0 e1 e2 e3
  have h1a:=h1.alloc h1.size (.cells #[.int .i64 g,.int .i64 a,.int .i64 d,.int .i64 mn] 48);have OL:=hB1.alloc hB1.size (.cells #[.int .i64 g,.int .i64 a,.int .i64 d,.int .i64 mn] 48);clear hxm;by_cases g3:n<0
  ·have hfin:=Lib.hid (Hl (n:=n) hc'.out hk (.inl g3));have aX:=hR.out _ h1a;go_wp2_with (refine aK (.tmp 8) (.tmp 43) aP aP rfl aX rfl rfl (fun w9 aN dh=>?_))
   have aQ:=Below.bG OL dh;go_wp2_with fail;exact dn results50 aN rfl rfl (dF hfin.out aQ)
  by_cases g4:mn<n
  ·have hfin:=Lib.hid (Hl (n:=n) hc'.out hk (.inr (by rw [MB.out];exact g4)))
   have aX:=hR.out _ h1a;go_wp2_with (refine aK (.tmp 8) (.tmp 43) aP aP rfl aX rfl rfl (fun w9 aN dh=>?_))
   have aQ:=Below.bG OL dh;go_wp2_with fail;exact dn results50 aN rfl rfl (dF hfin.out aQ)
  have Ic:=Lib.hid (dw.new W1 48 #[.int .i64 g,.int .i64 a,.int .i64 d,.int .i64 mn]);obtain ⟨Ar,cr,YF,N8,Ux,hrow⟩:=(hN.out W1 hB1).row hdo;obtain ⟨YE,lr1,KP⟩:=hrow.at_.int hgd;change W1.cell? _=some (.int .i64 (cell s.on d g)) at KP
  have hw0:IntKind.i64.wrap (cell s.on d g+n)=cell s.on d g+n:=bf _ (by omega)
  by_cases hm:200<cell s.on d g+n
  ·have hfin:=Lib.hid (QI (n:=n) hc'.out hk (by rw [MB.out];exact ⟨by omega,by simp only;omega⟩) (by rw [MB.out];simp only [eH];exact hm))
   go_wp2_with fail;go_quiet (fail)
   have Gi:=below_drewN h1a nq;have hBd:=below_drewN OL nq;clear y0 y1 x0 x1 x2 x3 x4 x5 x6 aV aW;clear e0 e1 e2 e3 okm lm YF N8 Ux hrow YE lr1 KP Ic h1a OL;generalize (W1.alloc (.cells #[.int .i64 g,.int .i64 a,.int .i64 d,.int .i64 mn] 48)).drewN nq=W4 at Gi hBd ⊢
   have aX:=hR.out _ Gi;go_wp2_with (refine aK (.tmp 8) (.tmp 57) aP aP rfl aX rfl rfl (fun w9 aN dh=>?_))
   have aQ:=Below.bG hBd dh;go_wp2_with fail;exact dn results50 aN rfl rfl (dF hfin.out aQ)
  have hmd:=iU hm;have hfin:=Lib.hid (YI (n:=n) hc'.out ⟨hk,by omega,by rw [MB.out];simp only;omega,by rw [MB.out];simp only [eH];omega⟩)
  go_wp2_with fail;go_quiet (fail)
  have Gi:=below_drewN h1a nq;have hBd:=below_drewN OL nq;have zA:=Lib.hid (Ic.out.below (below_drewN (aj _ _) nq) Ic.out.lt);clear y0 y1 x0 x1 x2 x3 x4 x5 x6 aV aW;clear e0 e1 e2 e3 okm lm YF N8 Ux hrow YE lr1 KP Ic h1a OL hw0 hmd;generalize W1.heap.size=wl at zA ⊢
  generalize (W1.alloc (.cells #[.int .i64 g,.int .i64 a,.int .i64 d,.int .i64 mn] 48)).drewN nq=W4 at Gi hBd zA ⊢
  obtain ⟨⟨y0,y1⟩,x0,x1,x2,x3,x4,x5,x6,aV,aW⟩:=hK.out W4 (Gi);go_wp2_with fail;clear y0 y1 x0 x1 x2 x3 x4 x5 x6 aV aW;refine (Yg _ _ p s (hV.out _ hBd) hsn.out).mono ?_
  rintro e W5 ⟨_,rfl,⟨V5,rfl,qK⟩,h5⟩;have jc:=(qK).one;have nK:=pV (W5);go_wp2_with (refine aK (.tmp 12) (.tmp 59) aP V5 rfl nK rfl jc (fun w6 fH zO=>?_);refine aU ?_)
  unfold Hid;have jO:=jK zO;have lQ:=fH.lt;clear jc nK zO;have h56:=h5.trans (jO.mono h5.size);have hx6:=Lib.hid (Bx.of fH (qK.below jO));have h06:=Gi.trans (h56.mono Gi.size);have lQ:=Lib.hid (zA.out.below h56 zA.out.lt);have hlw:wl<W4.heap.size:=zA.out.lt;have hle:w.heap.size≤W4.heap.size:=hBd.size;have hle0:W0.heap.size≤W4.heap.size:=Gi.size;have qp:W4.heap.size≤W5.heap.size:=h5.size;clear fH qK jO h5 zA Gi hBd h56;have jqi:wl<w6.heap.size:=lQ.out.lt;generalize W4.heap.size=base at hx6 hle hle0 qp hlw
  generalize W5.heap.size=bx at hx6 qp ⊢
  have jbH:base≤bx:=qp;have hcd1:cell (Xn s a g n).on d g=cell s.on d g:=by
   show cell (setCell s.on a g _) d g=_;rw [iQ hao hga,ah (by omega)]
  have hw1:IntKind.i64.wrap (cell s.on a g - n)=cell s.on a g - n:=bf _ (by omega)
  have hw2:IntKind.i64.wrap (cell s.on d g+n)=cell s.on d g+n:=bf _ (by omega)
  obtain ⟨zS,con,Ju,gr,cr,cur,Ip,Ri,Ia,r0,er,Rh,hbr,rc⟩:=hx6.out.own.Jr hao hga;have c0:=hx6.out.cells.1;rw [Ip] at c0
  have er':=Lib.hid er;clear Ip er Ia hbr;have m0:=lQ.out.cell (j:=0) rfl;have m1:=lQ.out.cell (j:=1) rfl;go_wp2_with fail;go_still_tail 13,(by kernel_rfl)
  change wpList _ _ _ _ _ w6.drew;refine zi rfl (.tmp 72) (.tmp 71) rfl rfl (i:=a) (g:=g) (q:=cell s.on a g - n) hx6.out.drew hao hga er'.out rfl rfl (fun w7 hx7 uP=>?_)
  refine gy ?_
  have h07:=h06.drew.trans (uP.below (B:=W0.heap.size) (fun q hq=>by omega) h06.drew.size)
  have pI:=Lib.hid (show Bx w7 base bx 31 [] V5 (Xn s a g n) from hx7)
  have OI:=Lib.hid (uP.blk (show dw w6.drew wl 48 _ from lQ.out) (by omega))
  clear hx7 uP c0 r0 rc m0 m1 hw1 hx6 h06 er' lQ;have jbx:d<(Xn s a g n).on.length:=by show d<(setCell _ _ _ _).length;rw [iY];exact hdo
  have hgd1:g<(rowAt (Xn s a g n).on d).length:=by show g<(rowAt (setCell _ _ _ _) d).length;rw [kK];exact hgd
  obtain ⟨zS,con,Ju,gr,cr,cur,Ip,Ri,Ia,r0,er,Rh,hbr,rc⟩:=pI.out.own.Jr jbx hgd1;rw [hcd1] at rc
  have c0:=pI.out.cells.1;rw [Ip] at c0
  have hl1:(Xn s a g n).on.length=s.on.length:=iY;have hl2:(rowAt (Xn s a g n).on d).length=(rowAt s.on d).length:=kK;rw [hl1] at c0
  rw [hl2] at r0
  have er':=Lib.hid er;clear Ip er Ia hbr hl1 hl2;have m0:=OI.out.cell (j:=0) rfl;have m2:=OI.out.cell (j:=2) rfl;go_wp2_with fail;go_still_tail 13,(by kernel_rfl)
  change wpList _ _ _ _ _ w7.drew;refine zi rfl (.tmp 85) (.tmp 84) rfl rfl (i:=d) (g:=g) (q:=cell s.on d g+n) pI.out.drew jbx hgd1 er'.out rfl rfl (fun w8 EF qJ=>?_)
  refine gy ?_
  have ug:=h07.drew.trans (qJ.below (B:=W0.heap.size) (fun q hq=>by omega) h07.drew.size)
  have lN:=Lib.hid (show Bx w8 base bx 31 [] V5 (mv2 s a d g n) by unfold mv2;rw [hcd1];exact EF)
  clear EF qJ c0 r0 rc m0 m2 hw2 pI h07 er' OI jbx hgd1;have hmo:=Lib.hid lN.out.own.moves;have c3:=lN.out.cells.2.2.2.1;go_wp2_with fail;clear c3;refine (jiO _ base _ s.moves i hmo.out hk (by omega)).mono ?_
  rintro e w9 ⟨u,rfl,hu,dh,hub⟩;obtain ⟨A9,c9,rfl⟩:=hu.isSlice;have ng:=lN.out.own.BA dh hu;have Ce:some bx≠V5.moves.ownBlock:=fun he=>by
   rcases lN.out.own.moves.iD lN.out.kW.blk (by decide) with h|h
   ·rw [h] at he;cases he
   ·exact h he.symm
  have Ci:=lN.out.kW.grown dh Ce;have h09:=ug.grown dh ug.size (fun r hr=>by have:=(hmo.out.size r hr).1;omega)
  have WO:=Lib.hid Ci;have Zr:=Lib.hid ng;clear hu dh hub ng Ci hmo lN ug Ce;go_wp2_with (refine EY rfl (.tmp 92) (.tmp 91) rfl rfl A9 (s.moves.eraseIdx i).length c9 (V:=V5) (cs:=[]) (b:=bx) (by rw [mJ];exact WO.out.blk) Zr.out SN rfl rfl rfl (fun w10 tJ nJ=>?_);refine aU ?_)
  unfold Hid;have jQ:=Lib.hid (show Bx w10 base bx 31 [] {V5 with moves:=.slice A9 (s.moves.eraseIdx i).length c9} (qH s i n) by rw [← QH MB.out];exact tJ)
  have h010:=h09.trans (nJ.below (B:=W0.heap.size) (fun q hq=>by omega) h09.size)
  have jgN:=hb0.trans (h010.mono hb0.size);clear tJ nJ WO Zr h09;generalize ({V5 with moves:=.slice A9 (s.moves.eraseIdx i).length c9}:SV)=V9 at jQ
  have aX:=hR.out _ h010;obtain ⟨b0,b1,b2,b3,b4,b5,b6⟩:=dN.cells jQ.out.kW;have eU:=aO.one jQ.out.own;go_wp2_with (refine aK (.tmp 8) (.tmp 93) aP V9 rfl aX rfl eU (fun w9 aN dh=>?_))
  have ng:=aO.keptBy jQ.out.own dh aX (by decide) (by decide) (by decide) (by decide) (by decide) (by decide)
  have aQ:=Below.bG jgN dh;clear b0 b1 b2 b3 b4 b5 b6;go_wp2_with fail;exact dn results50 aN rfl rfl (wH hfin.out (ng.from_ hle) aQ)
 ·have hne:(checkState p s!=0)=true:=by simpa using hc
  have hfin:=Lib.hid (UJ (k:=k) (n:=n) hc);clear hc;have aX:=hR.out _ h1;go_wp2_with (refine aK (.tmp 8) (.tmp 18) aP aP rfl aX rfl rfl (fun w9 aN dh=>?_))
  have aQ:=Below.bG hB1 dh;go_wp2_with fail;exact dn results50 aN rfl rfl (dF hfin.out aQ)
end Wh
namespace Wh
open Go Go.RowKit Go.Shelf Go.Proofs Tryz
section
variable {P:Program} {ops:Array Oper} {md:Region.Mode} {C:World→Prop} {l₀ n:Nat}
def Dl (ops:Array Oper):Bool:=ops.all fun o=>match o.op with| .defer _=>false|_=>true
theorem QF {ops:Array Oper} (h:Dl ops=true) {i:Nat} {o:Oper} (hi:ops[i]?=some o) (c:Call):o.op≠.defer c:=fun e=>by
 unfold Dl at h
 rw [Array.all_eq_true] at h
 obtain ⟨hl,rfl⟩:=gX.1 hi
 have:=h i hl;rw [e] at this
 cases this
theorem Qe {o:Oper} {a:Act} {K:Act→Prop} {K':Act→World→Prop} {Q':Exit→Act→World→Prop} {w:World} (hnd:∀ c,o.op≠.defer c) (hw:C w) (h:∀ a w',C w'→K a→K' a w')
  (hh:o.quiet P a C K):o.wpIn (Fence.wide.inRound l₀) n P a w K' Q':=by
 obtain ⟨v,h1,h2⟩:=hh;have h3:=h1 w hw;unfold Oper.quietAt at h3
 unfold Oper.wpIn;refine ⟨fun _ _=>bP,?_⟩
 rw [Oper.semAt_plain _ _ _ hnd];generalize (execOp a.eval o).run P w=r at*
 cases r with
 |ok x w'=>
  cases x<;>simp only [Oper.quietUpon] at h3<;>simp only [Oper.uponIn]
  case value u=>
   obtain ⟨e1,e2⟩:=h3;rw [e1,e2];exact h _ _ hw h2
  case skip=>
   obtain ⟨e1,e2⟩:=h3;rw [e1,← e2];exact h _ _ hw h2
  case enter f args=>
   obtain ⟨e1,hc⟩:=h3;rw [e1];exact ⟨fun hd=>(by cases hd),CallsIn.inRound l₀ (kD.2 (hc.mono fun e w'' hh=>by
    obtain ⟨he,hw''⟩:=hh;subst he;exact h _ _ hw'' h2))⟩
 |halt x w'=>simp only [Oper.quietUpon] at h3
theorem Qd {i:Nat} {a:Act} {K:Act→Prop} {K':Act→World→Prop} {Q':Exit→Act→World→Prop} {w:World} (hnd:Dl ops=true) (hC:C w) (h:∀ a w',C w'→K a→K' a w')
  (hh:qOp P ops C i K a):wpOpIn (Fence.wide.inRound l₀) n P ops Q' i K' a w:=by
 unfold qOp at hh
 unfold wpOpIn;split
 ·rename_i ho;simp only [ho] at hh;exact h _ _ hC hh
 ·rename_i o ho
  simp only [ho] at hh
  split
  ·rename_i hw;simp only [hw,wJ] at hh;exact Qe (QF hnd ho) hC h hh
  ·rename_i hw;simp only [hw] at hh;exact ⟨fun _ _=>bP,h _ _ hC hh⟩
theorem CZ {Q:Act→Prop} {Q':Exit→Act→World→Prop} (hnd:Dl ops=true) (hQ:∀ a w,C w→Q a→Q' .normal a w):∀ (fuel:Nat) (listed:Array Bool) (a:Act) (w:World),C w→
  wpAnyQ P md ops C Q fuel listed a→wpAnyIn (Fence.wide.inRound l₀) n P md ops Q' fuel listed a w
 |0,_,_,_,hw,h=>⟨h.1,hQ _ _ hw h.2⟩
 |fuel+1,_,_,_,hw,h=>⟨fun h0=>hQ _ _ hw (h.1 h0),fun i hi=>Qd hnd hw (fun a' w' hw'=>CZ hnd hQ fuel _ a' w' hw') (h.2 i hi)⟩
theorem JV {id:Nat} {Q:Exit→Act→World→Prop} {a:Act} {w:World} (hnd:Dl ops=true) (hm:P.follows .mixedOrders=true) (hB:Region.lexB .any ops=true) (hC:C {w with drawn:=w.drawn+1})
  (h:wpQuiet P ops C (fun a'=>∀ w',C w'→Q .normal a' w') ops.toList a):(Code.region id ops true).wpIn (Fence.wide.inRound l₀) n P Q a w:=by
 simp only [Region.lexB,dL] at hB
 refine wpIn_region_any hm (CZ (Q:=fun a'=>∀ w',C w'→Q .normal a' w') hnd (fun _ w' hw' h=>h w' hw') _ _ _ _ hC ?_)
 have:=wpAnyQ_lex (C:=C) (md:=.any) hB.1 ops.toList 0 (Array.replicate ops.size false) a (by simp) (by simpa using hB.2) h
 simpa using this
theorem kU {id:Nat} {Q:Exit→Act→World→Prop} {a:Act} {w:World} {l:List Oper} (hnd:Dl l.toArray=true) (hm:P.follows .mixedOrders=true) (hB:Region.lexB .any l.toArray=true)
  (h:wpQuiet P l.toArray (fun w'=>∃ p:GB,w'=wld w p.d p.os) (fun a'=>∀ w',(∃ p:GB,w'=wld w p.d p.os)→Q .normal a' w') l a):(Code.region id l.toArray true).wpIn (Fence.wide.inRound l₀) n P Q a w:=
 JV (C:=fun w'=>∃ p:GB,w'=wld w p.d p.os) hnd hm hB ⟨⟨w.drawn+1,#[]⟩,by simp [wld]⟩ (by simpa using h)
end
theorem Tj {ops:Array Oper} {rest:List Oper} {o:Oper} {a:Act} {w:World} {Q:Exit→Act→World→Prop} {base b l₀ n0:Nat} {t:TypeId} {cs:List Value} {V:SV}
  (hgd:o.guard=none) (x y:Operand) (ho:o.op=.store 29 x y) (hn:o.dst=none) (A:Option Addr) (n c:Nat) {V':SV} {s':State} (hk:dw w b t (V.cells++cs)) (hO:aO w base V' s') (hT:jag t) (hV:V'.cells++cs=(V.cells++cs).set 3 (.slice A n c))
  (hx:a.eval x=.pointer (some ⟨b,3,none⟩)) (hy:a.eval y=.slice A n c) (h:∀ w',Bx w' base b t cs V' s'→Step (·=b) w w'→wpListIn (Fence.wide.inRound l₀) n0 prog ops Q rest a w'):wpListIn (Fence.wide.inRound l₀) n0 prog ops Q (o::rest) a w:=
 wpListIn_plain hgd fun K hK=>by
  obtain ⟨h1,h2⟩:=Bx.set' hk hO hT 3 (.slice A n c) hV;have h3:=h _ h1 (.dG h2 fun k hk=>by injection hk with hk;exact hk.symm)
  have hc:w.cell? ⟨b,3,none⟩=some V.moves:=hk.cell rfl;have hf:=hk.frozen 3;clear h hk hO h1 h2 hV;unfold Oper.wpIn;refine ⟨fun _ _=>bP,?_⟩
  rw [Oper.semAt_plain _ _ _ (fun c=>by rw [ho];intro e;cases e)]
  simp only [execOp,ho,hx,hy];go_simp
  rw [hn] at*
  exact hK _ _ h3
end Wh
namespace Wh
open Go Go.RowKit Go.Shelf Go.Proofs Tryz
attribute [local go_sem] au
attribute [local go_sem] Oper.semAt_some
abbrev xM (p:Plan) (f:Bool):Type:={x:Nat // x<p.aH.length∧(fK p.aH x).front=f}
def jd (p:Plan) (f:Bool):Nat→List (xM p f)
 |0=>[]
 |k+1=>if h:k<p.aH.length∧(fK p.aH k).front=f then jd p f k++[(⟨k,h⟩:xM p f)] else jd p f k
theorem J7 {p:Plan} {f:Bool} {k:Nat} (h1:k<p.aH.length) (h2:(fK p.aH k).front=f):jd p f (k+1)=jd p f k++[⟨k,h1,h2⟩]:=by
 show (if h:k<p.aH.length∧(fK p.aH k).front=f then jd p f k++[(⟨k,h⟩:xM p f)] else jd p f k)=_
 rw [dif_pos ⟨h1,h2⟩]
theorem UN {p:Plan} {f:Bool} {k:Nat} (h:(fK p.aH k).front≠f):jd p f (k+1)=jd p f k:=by
 show (if h:k<p.aH.length∧(fK p.aH k).front=f then jd p f k++[(⟨k,h⟩:xM p f)] else jd p f k)=_
 rw [dif_neg (fun hh=>h hh.2)]
theorem J8 (p:Plan) (f:Bool):∀ k,k≤p.aH.length→(jd p f k).map Subtype.val=kZ p f k
 |0,_=>rfl
 |k+1,hk=>by
  have ih:=J8 p f k (by omega)
  by_cases hf:(fK p.aH k).front=f
  ·rw [J7 (by omega) hf,wu hf,jl,ih]
   rfl
  ·rw [UN hf,x9 hf,ih]
theorem JD (p:Plan) (f:Bool):∀ k,(jd p f k).length≤k
 |0=>aA _
 |k+1=>by
  have ih:=JD p f k;show (if h:k<p.aH.length∧(fK p.aH k).front=f then jd p f k++[(⟨k,h⟩:xM p f)] else jd p f k).length≤k+1
  split
  ·rw [dK,Gv];omega
  ·omega
theorem J9 (p:Plan) (f:Bool):∀ n k,k≤n→∃ r,jd p f n=jd p f k++r
 |0,k,h=>by
  obtain rfl:k=0:=by omega
  exact ⟨[],rfl⟩
 |n+1,k,h=>by
  by_cases he:k=n+1
  ·exact ⟨[],by rw [he,mJ]⟩
  ·obtain ⟨r,hr⟩:=J9 p f n k (by omega)
   by_cases hh:n<p.aH.length∧(fK p.aH n).front=f
   ·exact ⟨r++[⟨n,hh⟩],by rw [J7 hh.1 hh.2,hr,jo]⟩
   ·refine ⟨r,?_⟩
    rw [← hr];show (if h:n<p.aH.length∧(fK p.aH n).front=f then jd p f n++[(⟨n,h⟩:xM p f)] else jd p f n)=_
    rw [dif_neg hh]
theorem jea (F:Fence) (n:Nat) (h7:F.fn 156) (hro:F.round=none) (hn:1≤n) (l Bp Bf n₀:Nat) (p:Plan) (f:Bool) (Ab As:Option Addr) (cb cs:Nat) (hlb:p.aH.length≤6) (J Jx:List (xM p f)→World→Prop)
  (hY:∀ (pre:List (xM p f)) (x:xM p f) W,J pre W→pre.length<p.aH.length→YieldAt F (n - 1) prog l #[.int .i64 ((x.1:Nat):Int)] W fun e W'=>
   (e=.returned (.bool true)∧J (pre++[x]) W'∧KpB n₀ Bf W W')∨(e=.returned (.bool false)∧Jx (pre++[x]) W'))
  (W:World) (hn0:n₀≤W.heap.size) (hJ:AbidesFrom W.heap.size J) (Zu:Bf<W.heap.size) (hp0:W.cell? ⟨Bp,0,none⟩=some (.slice Ab p.aH.length cb)) (_:W.cell? ⟨Bp,1,none⟩=some (.slice As p.sizes.length cs))
  (hf:W.cell? ⟨Bf,0,none⟩=some (.bool f)) (hA:At W n₀ Ab (p.aH.flatMap Jv)) (h0:J [] W):
  CallsIn F n prog 156 #[.func (.yield l) #[] #[],.pointer (some ⟨Bp,0,none⟩),.pointer (some ⟨Bf,0,none⟩)] W fun e W'=>(∃ v,e=.returned v)∧
   ((∃ ys,ys=jd p f p.aH.length∧J ys W')∨(∃ pre,(∃ k,k≤p.aH.length∧pre=jd p f k)∧Jx pre W')):=by
 refine AU func156 rfl h7 ?_ hro
 simp only [ntmps156,qN,gQ,je,Nat.reduceAdd,Nat.reduceSub,rW,rV,rM,rQ,lq,qg];gi_wp2
 gi_loopw [9] (fun i wr=>∃ k:Nat,k≤p.aH.length∧i=.int .i64 k∧J (jd p f k) wr∧KpB n₀ Bf W wr)
  (fun i _=>p.aH.length - (intOf i).toNat)
 case atStart=>exact ⟨0,aT _,rfl,h0,aj _ _,rfl⟩
 case round=>
  obtain ⟨k,hk,rfl,hJs,hnx,hnf⟩:=hrel;by_cases hlt:k<p.aH.length
  ·obtain ⟨hok,EX,b0,b1,b2,b3⟩:=(hA.up hnx (aA _)).bin hlt;have g0:=hnf.trans hf;have hBw:Bf<wr.heap.size:=by have:=hnx.size;omega
   have hJa:=hJ _ _ _ none hJs (D9 wr (.cells #[.bool (fK p.aH k).front,.int .i64 (fK p.aH k).room,.int .i64 (fK p.aH k).low,.int .i64 (fK p.aH k).high] 125) none) (fun r h=>by cases h)
   have hBa:Below n₀ wr (wr.alloc (.cells #[.bool (fK p.aH k).front,.int .i64 (fK p.aH k).room,.int .i64 (fK p.aH k).low,.int .i64 (fK p.aH k).high] 125)):=(aj _ _).alloc (by have:=hnx.size;omega) _
   have hca:(wr.alloc (.cells #[.bool (fK p.aH k).front,.int .i64 (fK p.aH k).room,.int .i64 (fK p.aH k).low,.int .i64 (fK p.aH k).high] 125)).cell? ⟨Bf,0,none⟩=wr.cell? ⟨Bf,0,none⟩:=
    ((aj wr.heap.size wr).alloc (aA _) _).cell (p:=⟨Bf,0,none⟩) hBw
   cases hfr:((fK p.aH k).front==f)
   ·have hno:=UN (p:=p) (f:=f) (k:=k) (by simpa using hfr)
    gi_wp2
    refine ⟨fun _ h=>(by cases h),?_⟩
    gi_wp2
    go_roundw
    case rel=>exact ⟨k+1,by omega,by simp,by rw [hno];exact hJa,hnx.trans hBa,hca.trans hnf⟩
    case measure=>simp [intOf];omega
   ·have hfk:=Lib.hid (show (fK p.aH k).front=f by simpa using hfr)
    have hyes:=J7 hlt hfk.out;obtain ⟨fn,tmps,assign,body,hy,hR⟩:YieldAt F (n - 1) prog l #[.int .i64 ((k:Nat):Int)] _ _:=hY _ ⟨k,hlt,hfk.out⟩ _ hJa (by have:=JD p f k;omega)
    gi_wp2
    refine hR.mono ?_
    rintro e W3 (⟨rfl,hJ3,hk3⟩|⟨rfl,hJx3⟩)
    ·gi_wp2
     go_roundw
     case rel=>exact ⟨k+1,by omega,by simp,by rw [hyes];exact hJ3,(hnx.trans hBa).trans hk3.1,(hk3.2.trans hca).trans hnf⟩
     case measure=>simp [intOf];omega
    ·gi_wp2
     refine jS (Gl rfl _ _ _) rfl ?_
     exact ⟨⟨_,rfl⟩,.inr ⟨_,⟨k+1,by omega,hyes.symm⟩,hJx3⟩⟩
  ·obtain rfl:k=p.aH.length:=by omega
   gi_wp2
   go_end0
   exact ⟨⟨_,rfl⟩,.inl ⟨_,rfl,hJs⟩⟩
theorem OA (F:Fence) (n:Nat) (h7:F.fn 156) (hro:F.round=none) (hn:1≤n) (Bp Bf n₀:Nat) (p:Plan) (f:Bool) (Ab As:Option Addr) (cb cs:Nat) (hlb:p.aH.length≤6) (w:World) (hn0:n₀≤w.heap.size) (hBp:Bp<w.heap.size) (Zu:Bf<w.heap.size)
  (hp0:w.cell? ⟨Bp,0,none⟩=some (.slice Ab p.aH.length cb)) (hp1:w.cell? ⟨Bp,1,none⟩=some (.slice As p.sizes.length cs)) (hf:w.cell? ⟨Bf,0,none⟩=some (.bool f)) (hA:At w n₀ Ab (p.aH.flatMap Jv)):
  SeqStopsK F n prog 156 #[.pointer (some ⟨Bp,0,none⟩),.pointer (some ⟨Bf,0,none⟩)] (fun x:xM p f=>#[Value.int .i64 ((x.1:Nat):Int)]) (KpB n₀ Bf) (fun ys=>ys=jd p f p.aH.length) (fun pre=>∃ k,k≤p.aH.length∧pre=jd p f k) p.aH.length w:=fun l J Jx W hW hJ _ hY h0=>
 jea F n h7 hro hn l Bp Bf n₀ p f Ab As cb cs hlb J Jx hY W (bJ hn0 hW.size) hJ (aZ Zu hW.size) ((hW.cell (p:=⟨Bp,0,none⟩) hBp).trans hp0) ((hW.cell (p:=⟨Bp,1,none⟩) hBp).trans hp1)
  ((hW.cell (p:=⟨Bf,0,none⟩) Zu).trans hf) (hA.up (hW.mono hn0) (aA _)) h0
section
variable {w w':World} {base:Nat}
theorem Own.lU {α:Type} {enc:α→List Value} {size:Nat} {e:TypeId} {v:Value} {l:List α} {row:Option Nat} (h:Own enc size e w base v l) (hg:w.grownBy w' row) (hr:∀ r,row=some r→∃ o:Obj,w.heap[r]?=some o∧o.isCells=false):Own enc size e w' base v l:=by
 refine h.kept hg ?_
 cases hv:v.ownBlock with
 |none=>exact .inl rfl
 |some g=>
  refine .inr fun he=>?_
  obtain ⟨cur,hc⟩:=h.block hv;obtain ⟨o,ho,hn⟩:=hr g he.symm;rw [hc] at ho
  injection ho with ho
  subst ho;cases hn
theorem aO.lU {V:SV} {s:State} {row:Option Nat} (h:aO w base V s) (hg:w.grownBy w' row) (hr:∀ r,row=some r→∃ o:Obj,w.heap[r]?=some o∧o.isCells=false):aO w' base V s:=
 ⟨h.on.lU hg hr,h.rlen,fun b hlt=>(h.row b hlt).lU hg hr,h.orders.lU hg hr,h.llen,fun o ho=>(h.line o ho).lU hg hr,h.holds.lU hg hr,h.moves.lU hg hr,h.inn.lU hg hr,h.out.lU hg hr,h.fixed.lU hg hr,h.apart,h.oQ⟩
theorem Bx.lU {b:Nat} {t:TypeId} {rest:List Value} {V:SV} {s:State} {row:Option Nat} (h:Bx w base b t rest V s) (hg:w.grownBy w' row) (hr:∀ r,row=some r→∃ o:Obj,w.heap[r]?=some o∧o.isCells=false):Bx w' base b t rest V s:=by
 refine ⟨h.box.grown hg fun he=>?_,h.own.lU hg hr,h.ty⟩
 obtain ⟨o,ho,hn⟩:=hr b he.symm;have hb:w.heap[b]?=_:=h.box;rw [hb] at ho
 injection ho with ho
 subst ho;cases hn
end
end Wh
