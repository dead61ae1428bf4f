/- Texts of the claim, joined. -/
import Derived.Deep.LoopGhost
import Derived.Test.YtfhfkijmebhgmaaGreatQ37
set_option maxHeartbeats 20000000
set_option maxRecDepth 100000
namespace Wh
open Go Go.RowKit Go.Shelf Go.Proofs Tryz
attribute [local go_sem] au dQ dI dX
def ctT (W:World) (base bx:Nat) (V:SV) (s s1:State) (kb:Nat) (cells:List Value) (ph:Nat) (w:World):Prop:=Qx W base bx V s s1 ph w∧dw w kb 104 cells
theorem jd3 {W w1 w2:World} {base bx ph kb:Nat} {V:SV} {s s1:State} {cells:List Value} (h:ctT W base bx V s s1 kb cells ph w1) (hb:Below w1.heap.size w1 w2):ctT W base bx V s s1 kb cells ph w2:=
 ⟨Qw h.1 hb,h.2.below hb h.2.lt⟩
theorem jeV (w:World) (v vs:Value) (p:Plan) (s:State) (b g n:Int) (hp:fZ w w.heap.size v p) (hv:fE w w.heap.size vs s):
  Calls prog 21 #[v,vs,.int .i64 b,.int .i64 g,.int .i64 n] w (gU (count p s b g n) w):=by
 obtain ⟨Ab,cb,As,cs,rfl,hP',hBn,hSz,hlb,hls⟩:=kN hp;obtain ⟨A0,c0,A1,c1,A2,c2,A3,c3,A4,c4,A5,c5,A6,c6,rfl,hV,hN,hO,hH,hM,hI,hU,hX,hl0,hl1,hl2,hl3,hl4,hl5,CW⟩:=iG hv;go_enter func21,ntmps21
 go_wp2_with fail;obtain ⟨W0,hW0,hb0,hsz0,hsz1,hsE,hK,hR⟩:=oH w p s Ab cb As cs A0 c0 A1 c1 A2 c2 A3 c3 A4 c4 A5 c5 A6 c6;rw [hW0];clear hW0;obtain ⟨⟨y0,y1⟩,x0,x1,x2,x3,x4,x5,x6,aV,aW⟩:=hK.out W0 (aj W0.heap.size W0);go_wp2_with fail;clear y0 y1 x0 x1 x2 x3 x4 x5 x6 aV aW;refine (qw _ _ _ p s (hP'.out _ hb0) (hV.out _ hb0)).mono ?_
 rintro e W1 ⟨rfl,h1⟩;have hB1:=hb0.trans (h1.mono hb0.size);obtain ⟨⟨y0,y1⟩,x0,x1,x2,x3,x4,x5,x6,aV,aW⟩:=hK.out W1 (h1);by_cases hc:checkState p s=0
 ·have hc':=Lib.hid hc;have hsn:=Lib.hid (dV.1 hc).1;rw [hc];clear hc;go_wp2_with fail;clear y0 y1 x0 x1 x2 x3 x4 x5 x6 aV aW;have hcnt:=hsn.out.counts;refine (vw _ _ p b (hP'.out _ hB1) (by omega)).mono ?_
  rintro e W2 ⟨rfl,h2⟩;have h02:=h1.trans (h2.mono h1.size);have hB2:=hb0.trans (h02.mono hb0.size);obtain ⟨⟨y0,y1⟩,x0,x1,x2,x3,x4,x5,x6,aV,aW⟩:=hK.out W2 (h02);cases hth:fD p b
  ·have hfin:=Lib.hid (count_range (g:=g) (n:=n) hc'.out (by rw [hth];rfl))
   clear hth;have aX:=hR.out _ h02;go_wp2_with (refine aK (.tmp 10) (.tmp 41) aP aP rfl aX rfl rfl (fun w9 aN dh=>?_))
   have aQ:=Below.bG hB2 dh;go_wp2_with fail;exact dn results21 aN rfl rfl (dF hfin.out aQ)
  have jdD:=Lib.hid hth;clear hth;go_wp2_with fail;clear y0 y1 x0 x1 x2 x3 x4 x5 x6 aV aW;refine (uV _ _ p g (hP'.out _ hB2) (by omega)).mono ?_
  rintro e W8 ⟨rfl,h8⟩;have ug:=h02.trans (h8.mono h02.size);have OJ:=hb0.trans (ug.mono hb0.size);obtain ⟨⟨y0,y1⟩,x0,x1,x2,x3,x4,x5,x6,aV,aW⟩:=hK.out W8 (ug);cases hth:bU p g
  ·have hfin:=Lib.hid (count_range (n:=n) hc'.out (by rw [jdD.out,hth];rfl))
   clear hth;have aX:=hR.out _ ug;go_wp2_with (refine aK (.tmp 10) (.tmp 41) aP aP rfl aX rfl rfl (fun w9 aN dh=>?_))
   have aQ:=Below.bG OJ dh;go_wp2_with fail;exact dn results21 aN rfl rfl (dF hfin.out aQ)
  have jnE:=Lib.hid hth;clear hth;go_wp2_with fail;clear y0 y1 x0 x1 x2 x3 x4 x5 x6 aV aW;refine (iw n 0 200 _).mono ?_
  rintro e w' ⟨rfl,rfl⟩;obtain ⟨⟨y0,y1⟩,x0,x1,x2,x3,x4,x5,x6,aV,aW⟩:=hK.out W8 (ug);cases hwn:within n 0 200
  ·have hfin:=Lib.hid (count_range (b:=b) (g:=g) (n:=n) hc'.out (by rw [hwn,P8]))
   clear hwn;have aX:=hR.out _ ug;go_wp2_with (refine aK (.tmp 10) (.tmp 41) aP aP rfl aX rfl rfl (fun w9 aN dh=>?_))
   have aQ:=Below.bG OJ dh;go_wp2_with fail;exact dn results21 aN rfl rfl (dF hfin.out aQ)
  obtain ⟨hn1,hn2⟩:=within_iff.1 hwn;clear hwn;obtain ⟨i,rfl,hi⟩:=Xg jdD.out;obtain ⟨j,rfl,hj⟩:=RF jnE.out;clear jdD jnE;have hil:i<s.on.length:=by rw [hsn.out.ku];exact hi
  have hjl:j<(rowAt s.on i).length:=by rw [hsn.out.rowLen hi];exact hj
  have hfl:j<s.fixed.length:=by rw [hsn.out.fixed.1];exact hj
  have hii:(i:Int)<(s.on.length:Int):=by omega
  have hji:(j:Int)<((rowAt s.on i).length:Int):=by omega
  have hfi:(j:Int)<(s.fixed.length:Int):=by omega
  have hcl:=hsn.out.cell hi hj;have hfx:=hsn.out.fixed.2 hj;have hw1:IntKind.i64.wrap (aC s.fixed j+n)=aC s.fixed j+n:=bf _ (by omega)
  have hw2:IntKind.i64.wrap (aC s.fixed j+n - cell s.on i j)=aC s.fixed j+n - cell s.on i j:=bf _ (by omega)
  obtain ⟨Ar,cr,YF,N8,Ux,hrow⟩:=(hN.out W8 OJ).row hil;obtain ⟨YE,lr1,KP⟩:=hrow.at_.int hjl;obtain ⟨ox,lx,rx⟩:=(hX.out W8 OJ).at_.int (i:=j) hfl;change W8.cell? _=some (.int .i64 (cell s.on i j)) at KP
  change W8.cell? _=some (.int .i64 (aC s.fixed j)) at rx
  have q1:=fun o d os=>aG (w:=W8) (b:=w.heap.size+1) aV o d os
  have q2:=fun o d os=>aG (w:=W8) (b:=dD A0) N8 o d os
  have q3:=fun o d os=>aG (w:=W8) (b:=dD Ar) lr1 o d os
  have q4:=fun o d os=>aG (w:=W8) (b:=dD A6) lx o d os
  go_wp2_with fail;refine aJ (by kernel_rfl) (by kernel_rfl) ?_
  repeat (go_big_quiet_step ((go_at_call 38;refine sV (iw _ _ _ _))))
  refine wpQuiet_nil ?_
  intro W9 hw';have Ci:=aI hw';clear hw';clear q1 q2 q3 q4 Ux KP rx;clear y0 y1 x0 x1 x2 x3 x4 x5 x6 aV aW;have h09:=ug.trans (Ci.mono ug.size);have hB9:=hb0.trans (h09.mono hb0.size);obtain ⟨⟨y0,y1⟩,x0,x1,x2,x3,x4,x5,x6,aV,aW⟩:=hK.out W9 (h09);cases hwf:within (aC s.fixed j+n - cell s.on i j) (-1048576) 1048576
  ·have hfin:=Lib.hid (KJ (n:=n) hc'.out hi hj ⟨hn1,hn2⟩ (gY.1 hwf));clear hwf;have aX:=hR.out _ h09;go_wp2_with (refine aK (.tmp 10) (.tmp 60) aP aP rfl aX rfl rfl (fun w9 aN dh=>?_))
   have aQ:=Below.bG hB9 dh;go_wp2_with fail;exact dn results21 aN rfl rfl (dF hfin.out aQ)
  have hf:=Lib.hid (show Counts p s i j n from ⟨hi,hj,hn1,hn2,(within_iff.1 hwf).1,(within_iff.1 hwf).2⟩)
  clear hwf;go_wp2_with fail;clear y0 y1 x0 x1 x2 x3 x4 x5 x6 aV aW;refine (vS _ _ p s (hV.out _ hB9) hsn.out).mono ?_
  rintro e W5 ⟨_,rfl,⟨V5,rfl,qK⟩,h5⟩;have jc:=(qK).one;have nK:=pV (W5);go_wp2_with (refine aK (.tmp 13) (.tmp 62) aP V5 rfl nK rfl jc (fun w6 fH zO=>?_);refine aU ?_)
  unfold Hid;have jO:=jK zO;have lQ:=fH.lt;clear jc nK zO;have hx6:=Lib.hid (Bx.of fH (qK.below jO));have h06:=h09.trans ((h5.trans (jO.mono h5.size)).mono h09.size);have hle:w.heap.size≤W9.heap.size:=hB9.size;have hle0:W0.heap.size≤W9.heap.size:=h09.size;have qp:W9.heap.size≤W5.heap.size:=h5.size;clear fH qK jO h5 lQ h1 hB1 h02 hB2 ug OJ h8 h2 h09 hB9 Ci;generalize W5.heap.size=bx at hx6 qp ⊢
  generalize W9.heap.size=base at hx6 hle hle0 qp
  obtain ⟨gf,cf,jry,ef,jk2,hbf,rf⟩:=aO.qX hx6.out.own.fixed (g:=j) hfl;obtain ⟨zS,con,Ju,gr,cr',cur,Ip,Ri,Ia,r0,er,Rh,hbr,rc⟩:=hx6.out.own.Jr hil hjl;have c0:=hx6.out.cells.1;have c6:=hx6.out.cells.2.2.2.2.2.2;rw [ef] at c6
  rw [Ip] at c0
  have ef':=Lib.hid ef;clear ef Ip er;go_wp2_with fail;go_still_tail 20,(by kernel_rfl)
  change wpList _ _ _ _ _ w6.drew;refine NS rfl (.tmp 82) (.tmp 81) rfl rfl (g:=j) (q:=aC s.fixed j+n - cell s.on i j) hx6.out.drew hfl ef'.out rfl rfl (fun w7 hx7 uP=>?_)
  refine gy ?_
  have h07:=h06.drew.trans (uP.below (B:=W0.heap.size) (fun q hq=>by omega) h06.drew.size)
  have pI:=Lib.hid hx7;clear hx7 uP c0 c6 rf hbf ef' jk2 Ri Ia r0 Rh hbr rc hx6 h06;obtain ⟨zS,con,Ju,gr,cr',cur,Ip,Ri,Ia,r0,er,Rh,hbr,rc⟩:=pI.out.own.Jr (b:=i) (g:=j) hil hjl;have c0:=pI.out.cells.1;rw [Ip] at c0
  have er':=Lib.hid er;clear Ip er rc;go_wp2_with (refine zi rfl (.tmp 90) (.tmp 89) rfl rfl (i:=i) (g:=j) (q:=n) pI.out hil hjl er'.out rfl rfl (fun w8 EF qJ=>?_);refine aU ?_)
  unfold Hid;have ug:=h07.trans (qJ.below (B:=W0.heap.size) (fun q hq=>by omega) h07.size)
  have lN:=Lib.hid EF;clear EF qJ c0 r0 Ia Ri Rh hbr er' pI h07;go_wp2_with fail;have e0:mV s i j n 0={{s with fixed:=s.fixed.set j (aC s.fixed j+n - cell s.on i j)} with on:=setCell s.on i j n}:=by
   unfold mV;rw [SA hsn.out,jb1 hsn.out,Sz hsn.out]
  have qj:=lN.out;rw [← e0] at qj
  clear e0;have jcQ:=Lib.hid (dw.new w8 104 #[.int .i64 0,.int .i64 0,.int .i64 0,.int .i64 0,.int .i64 0,.int .i64 0,.int .i64 0,.int .i64 0,.int .i64 0,.int .i64 0,.int .i64 0,.int .i64 0]);have ha9:Below w8.heap.size w8 (w8.alloc (.cells #[.int .i64 0,.int .i64 0,.int .i64 0,.int .i64 0,.int .i64 0,.int .i64 0,.int .i64 0,.int .i64 0,.int .i64 0,.int .i64 0,.int .i64 0,.int .i64 0] 104)):=(aj _ _).alloc (aA _) _;have hxa:=Lib.hid (qj.below ha9);have h0a:=ug.trans (ha9.mono ug.size);have jqn:base≤w8.heap.size:=by have:=qj.box.lt;omega
  clear qj lN ha9 ug;generalize w8.heap.size=kb at jcQ jqn ⊢
  generalize w8.alloc (.cells #[.int .i64 0,.int .i64 0,.int .i64 0,.int .i64 0,.int .i64 0,.int .i64 0,.int .i64 0,.int .i64 0,.int .i64 0,.int .i64 0,.int .i64 0,.int .i64 0] 104)=w9 at jcQ hxa h0a ⊢
  have hr:=Lib.hid (cO hc'.out);have hbd:=wG hsn.out i j;have hov:0≤over s i j n∧over s i j n≤bound s i j:=by unfold over;omega
  have hx0:=jcQ.out;rw [← Ub (b:=i) (g:=j) hsn.out] at hx0
  have hblk:=Lib.hid hx0;clear hx0 jcQ;go_loopg [15,16] (over s i j n).toNat (fun gk _ _ wr=>∃ (t:Int) (V:SV),gk=(over s i j n - t).toNat∧0≤t∧t≤over s i j n∧Bx wr base bx 31 [] V (mV s i j n t)∧dw wr kb 104 (oG s i j t)∧Below W0.heap.size W0 wr)
  case atStart=>exact ⟨0,_,by rw [yX],jI _,hov.1,hxa.out,hblk.out,h0a⟩
  case round=>
   obtain ⟨t,V,hgk,ht0,ht1,hx,hbk,h0r⟩:=hrel;have hxr:=Lib.hid hx;have jdL:=Lib.hid hbk;have jbu:=Lib.hid hgk;clear hx hbk hgk hxa hblk h0a;have hst:=Lib.hid (jg4 hr.out hf.out t);have hBr:=hb0.trans (h0r.mono hb0.size);obtain ⟨p0,p1,p2,p3,p4,p5,p6⟩:=hxr.out.cells;have Xm:=hxr.out.lt;go_wp2_with fail;clear p0 p1 p2 p3 p4 p5 p6;refine (VN _ _ p _ i j (hxr.out.own.view hst.out) hst.out).mono ?_
   rintro e W1 ⟨rfl,h1⟩;rw [Xa hr.out ht0 (by omega)]
   by_cases hlt:n<bound s i j - t
   ·have hlt':=lg hlt;have hx1:=Lib.hid (hxr.out.below h1);have hbk1:=Lib.hid (jdL.out.below h1 jdL.out.lt);have h01:=h0r.trans (h1.mono h0r.size);clear hxr jdL h1 hBr h0r Xm;obtain ⟨p0,p1,p2,p3,p4,p5,p6⟩:=hx1.out.cells;have Xm:=hx1.out.lt;go_wp2_with fail;clear p0 p1 p2 p3 p4 p5 p6;refine (jdk _ _ p _ i j (hx1.out.own.view hst.out) hst.out).mono ?_
    rintro e W2 ⟨rfl,h2⟩;have hx2:=Lib.hid (hx1.out.below h2);have hbk2:=Lib.hid (hbk1.out.below h2 hbk1.out.lt);have h02:=h01.trans (h2.mono h01.size);clear hx1 hbk1 h2 h01 Xm hlt';generalize hsT:mV s i j n t=sT at hst hx2 ⊢
    have jbq:oN s i j t=sT.moves:=by rw [← hsT];rfl
    have WH:iT s i j t=sT.holds:=by rw [← hsT];rfl
    have hsp:(J5 sT.moves i j= -1∧∀ q,q<sT.moves.length→¬ ((aB sT.moves q).src=(i:Int)∧(aB sT.moves q).good=(j:Int)))∨∃ k:Nat,k<sT.moves.length∧J5 sT.moves i j=k∧((aB sT.moves k).src=(i:Int)∧(aB sT.moves k).good=(j:Int))∧∀ q,k<q→q<sT.moves.length→¬ ((aB sT.moves q).src=(i:Int)∧(aB sT.moves q).good=(j:Int)):=JB sT.moves i j sT.moves.length;have hmeas:t<over s i j n:=by unfold over;omega
    have htb:t<bound s i j:=by omega
    clear hlt;rcases hsp with ⟨he,hno⟩|⟨k,hk,he,hat,hlast⟩
    ·rw [he];clear he;have h0:∀ x∈oN s i j t,¬ (x.src=(i:Int)∧x.good=(j:Int)):=fun x hx=>by
      rw [jbq] at hx
      obtain ⟨q,hq,rfl⟩:=cZ hx;rw [← iM hq];exact hno q hq
     have hany:=jaS hsn.out ht0 htb h0;rw [WH] at hany
     have hkk:∀ q,q<sT.holds.length→∃ a c:Nat,(hold sT.holds q).order=a∧(hold sT.holds q).line=c∧a<s.orders.length∧c<(s.order a).lines.length:=fun q hq=>by
      have h1:=hst.out.oP hq;have h2:sT.orders.length=s.orders.length:=by rw [← hsT,kQ]
      have h3:(hold sT.holds q).order.toNat<s.orders.length:=by omega
      have h4:(sT.order (hold sT.holds q).order.toNat).lines.length=(s.order (hold sT.holds q).order.toNat).lines.length:=by rw [← hsT,jG _ (by rw [hsT];exact h3)]
      exact ⟨(hold sT.holds q).order.toNat,(hold sT.holds q).line.toNat,by omega,by omega,h3,by omega⟩
     have jil:∀ q,q<sT.holds.length→(oz sT i j).is (hold sT.holds q)=(oz s i j).is (hold sT.holds q):=fun q hq=>by
      obtain ⟨a,c,h1,h2,h3,h4⟩:=hkk q hq;rw [← hsT];refine uh (by rw [hsT,h1];exact h3) (by rw [hsT,h1,h2];exact h4)
     have hsp2:(J6 sT i j= -1∧∀ q,q<sT.holds.length→(oz sT i j).is (hold sT.holds q)=false)∨∃ k:Nat,k<sT.holds.length∧J6 sT i j=k∧(oz sT i j).is (hold sT.holds k)=true∧∀ q,k<q→q<sT.holds.length→(oz sT i j).is (hold sT.holds q)=false:=JC sT i j sT.holds.length;rcases hsp2 with ⟨_,hn⟩|⟨k,hk,he,hat,hlast⟩
     ·obtain ⟨x,hx,hxi⟩:=uJ.1 hany;obtain ⟨q,hq,rfl⟩:=cZ hx;rw [← bV hq,← jil q hq,hn q hq] at hxi
      cases hxi
     obtain ⟨a,c,ha,hc2,hao,hcl⟩:=hkk k hk;have hph:=jaU (seen:=n) hsn.out ht0 h0 (k:=k) (by rw [WH];exact hk) (by rw [WH,← jil k hk];exact hat) (fun q hkq hq=>by rw [WH] at hq ⊢;rw [← jil q hq];exact hlast q hkq hq) (by rw [WH];exact ha) (by rw [WH];exact hc2) hao hcl
     rw [WH,hsT] at hph
     have hmr:=hst.out.oP hk;have hkey:=zH hst.out.holds hk;obtain ⟨a0,c0,bi,m,hxh⟩:∃ a0 c0 bi m,hold sT.holds k=⟨a0,c0,bi,m⟩:=⟨_,_,_,_,rfl⟩;obtain ⟨gh,ch,curh,eh,jqB,hbh,z0,z1,z2,z3⟩:=hx2.out.own.oP hk;rw [hxh] at ha hc2 hph hmr hkey z0 z1 z2 z3
     simp only at ha hc2 hph hmr hkey z0 z1 z2 z3
     subst ha hc2;have haT:a<sT.orders.length:=by rw [← hsT,kQ];exact hao
     have hcT:c<(sT.order a).lines.length:=by rw [← hsT,jG a hao];exact hcl
     have ha4:a<4:=by have:=hsn.out.jh;omega
     have hc3:c<3:=by have:=(hsn.out.jX hao).2;omega
     have hm1:1≤m∧m≤200:=by omega
     have Ob:=hst.out.line haT hcT;have hbr:0≤(sT.line a c).back∧(sT.line a c).back≤200:=by omega
     have hcn:=sU hsn.out i j t a c;have hkr:=lK hsn.out.holds a c;have hcn2:0≤jD s i j t a c∧jD s i j t a c≤1200:=by omega
     have jfM:=Lib.hid hph.1;have jfL:=Lib.hid hph.2;have he':=Lib.hid he;have eh':=Lib.hid eh;have lgh:=hbh.lt;have Xm:=hx2.out.lt;have hki:(k:Int)<(sT.holds.length:Int):=by omega
     have hwn:IntKind.i64.wrap (m - 1)=m - 1:=bf _ (by omega)
     have hwb:IntKind.i64.wrap ((sT.line a c).back+1)=(sT.line a c).back+1:=bf _ (by omega)
     have hwc:IntKind.i64.wrap (jD s i j t a c+1)=jD s i j t a c+1:=bf _ (by omega)
     clear hno h0 hany hkk jil he hat hlast hph hmr Ob hcn hkr eh jbq WH hsT;go_wp2_with fail;refine lT 9 [fun gq _=>gq 132=.pointer (some ⟨bx,2,none⟩),fun gq _=>gq 133=.slice (some ⟨gh,0,none⟩) sT.holds.length ch,fun gq _=>gq 134=.agg #[V.on,V.orders,V.holds,V.moves,V.inn,V.out,V.fixed],fun gq _=>gq 135=.int .i64 i,fun gq _=>gq 136=.int .i64 j,fun gq w'=>(fun v w'=>v=.int .i64 k) (gq 137) w',fun gq _=>gq 138=.pointer (some ⟨gh,k*4,none⟩),fun gq _=>gq 139=.agg #[.int .i64 a,.int .i64 c,.int .i64 bi,.int .i64 m],fun gq w'=>(fun v w'=>∃ hh,v=.pointer (some ⟨hh,0,none⟩)∧W2.heap.size≤hh∧dw w' hh 46 [.int .i64 0,.int .i64 0,.int .i64 0,.int .i64 0]) (gq 16) w'] (by kernel_rfl) (by kernel_rfl) rfl (by kernel_rfl) ?_ (fun f W3 hb3 hR=>?_)
     simp only [eY,eG];refine bg.cons (dU.val rfl rfl (fun gq w' hb ho hd=>?_)) ?_
     ·have e13:=ho 13 rfl;go_simp
     refine bg.cons (dU.val rfl rfl (fun gq w' hb ho hd=>?_)) ?_
     ·have e132:gq 132=.pointer (some ⟨bx,2,none⟩):=hd ⟨0,.data⟩ (by simp) rfl (by decide)
      have x2:=(hx2.out.below hb).cells.2.2.1;rw [eh'.out] at x2
      go_simp
     refine bg.cons (dU.val rfl rfl (fun gq w' hb ho hd=>?_)) ?_
     ·have e13:=ho 13 rfl;obtain ⟨x0,x1,x2,x3,x4,x5,x6⟩:=(hx2.out.below hb).cells;go_simp
     refine bg.cons (dU.val rfl rfl (fun gq w' hb ho hd=>?_)) ?_
     ·have e2:=ho 2 rfl;go_simp
     refine bg.cons (dU.val rfl rfl (fun gq w' hb ho hd=>?_)) ?_
     ·have e3:=ho 3 rfl;go_simp
     refine bg.cons (dU.one (d:=137) (p:=(fun v w'=>v=.int .i64 k)) rfl rfl (fun v w1 w2 h hb=>h) (fun gq w' hb ho hd=>?_)) ?_
     ·have e134:gq 134=.agg #[V.on,V.orders,V.holds,V.moves,V.inn,V.out,V.fixed]:=hd ⟨2,.data⟩ (by simp) rfl (by decide)
      have e135:gq 135=.int .i64 i:=hd ⟨3,.data⟩ (by simp) rfl (by decide)
      have e136:gq 136=.int .i64 j:=hd ⟨4,.data⟩ (by simp) rfl (by decide)
      unfold dO;go_simp
      refine (jdl w' _ p sT i j ((hx2.out.below hb).own.view hst.out) hst.out).mono ?_
      rintro e w2 ⟨rfl,h⟩;exact ⟨_,rfl,by rw [he'.out],h⟩
     refine bg.cons (dU.val rfl rfl (fun gq w' hb ho hd=>?_)) ?_
     ·have e133:gq 133=.slice (some ⟨gh,0,none⟩) sT.holds.length ch:=hd ⟨1,.data⟩ (by simp) rfl (by decide)
      have e137:(gq 137)=.int .i64 k:=hd ⟨5,.data⟩ (by simp) rfl (by decide)
      go_simp
     refine bg.cons (dU.val rfl rfl (fun gq w' hb ho hd=>?_)) ?_
     ·have e138:gq 138=.pointer (some ⟨gh,k*4,none⟩):=hd ⟨6,.data⟩ (by simp) rfl (by decide)
      have u0:=(hb.cell (p:=⟨gh,k*4,none⟩) lgh).trans z0;have u1:=(hb.cell (p:=⟨gh,k*4+1,none⟩) lgh).trans z1;have u2:=(hb.cell (p:=⟨gh,k*4+2,none⟩) lgh).trans z2;have u3:=(hb.cell (p:=⟨gh,k*4+3,none⟩) lgh).trans z3;go_simp
     refine bg.cons (dU.one (d:=16) (p:=(fun v w'=>∃ hh,v=.pointer (some ⟨hh,0,none⟩)∧W2.heap.size≤hh∧dw w' hh 46 [.int .i64 0,.int .i64 0,.int .i64 0,.int .i64 0])) rfl rfl (fun v w1 w2 h hb=>let ⟨hh,h1,h2,h3⟩:=h;⟨hh,h1,h2,h3.below hb h3.lt⟩) (fun gq w' hb ho hd=>?_)) ?_
     ·unfold dO;go_simp
      exact ⟨⟨hb.size,dw.new _ _ _⟩,(aj _ _).alloc (aA _) _⟩
     exact bg.nil;obtain ⟨jmX,jmW,jmV,jmU,jmT,jhP,jmS,jmR,r16,_⟩:=hR;replace jhP:(f 137)=.int .i64 k:=jhP;replace r16:∃ hh,(f 16)=.pointer (some ⟨hh,0,none⟩)∧W2.heap.size≤hh∧dw W3 hh 46 [.int .i64 0,.int .i64 0,.int .i64 0,.int .i64 0]:=r16;simp only [fU,qZ,eY,eG,lF,mG,mF,mD,jH,mg,iW,iy,iJ,jmX,jmW,jmV,jmU,jmT,jhP,jmS,jmR];clear jmX jmW jmV jmU jmT jhP jmS jmR;obtain ⟨hh,r16,jqw,hbl⟩:=r16;simp only [r16];clear r16;refine Pm rfl 46 (.tmp 16) (.tmp 139) rfl hh #[.int .i64 a,.int .i64 c,.int .i64 bi,.int .i64 m] rfl rfl 46 _ hbl (by kernel_rfl) rfl (by simp [Value.oneCell']) ?_
     refine gy ?_
     have hb4:=ET hb3 jqw #[.int .i64 a,.int .i64 c,.int .i64 bi,.int .i64 m];have zA:=Lib.hid (show dw (W3.setRow hh #[.int .i64 a,.int .i64 c,.int .i64 bi,.int .i64 m]) hh 46 [.int .i64 a,.int .i64 c,.int .i64 bi,.int .i64 m] from dw.row hbl [.int .i64 a,.int .i64 c,.int .i64 bi,.int .i64 m])
     generalize W3.setRow hh #[.int .i64 a,.int .i64 c,.int .i64 bi,.int .i64 m]=W4 at hb4 zA ⊢
     have hx4:=Lib.hid (hx2.out.below hb4);have jli:=Lib.hid (hbk2.out.below hb4 hbk2.out.lt);have h04:=h02.trans (hb4.mono h02.size);clear hb3 hbl hb4 hbk2 hx2 z0 z1 z2 z3 hbh h02 lgh Xm;have Xm:=hx4.out.lt;have Nu:=jJ hst.out.holds;have u0:=zA.out.cell (j:=0) rfl;have u1:=zA.out.cell (j:=1) rfl;have u2:=zA.out.cell (j:=2) rfl;have u3:=zA.out.cell (j:=3) rfl;have lhh:=zA.out.lt;have x2:=hx4.out.cells.2.2.1;rw [eh'.out] at x2
     have hsl:=hx4.out.own.holds.sl (by omega)
     rw [eh'.out] at hsl
     go_wp2_with fail;clear u0 u1 u2 u3 x2;refine (jeP _ _ sT.holds a c bi (m - 1) hsl hst.out.holds hkey).mono ?_
     rintro e W5 ⟨u,rfl,hu,h5⟩;obtain ⟨A7,c7,rfl⟩:=hu.isSlice;have hx5:=Lib.hid (hx4.out.below h5);have hu5:=Lib.hid (hu.from_ (show base≤W4.heap.size by omega))
     have jlh:=Lib.hid (jli.out.below h5 jli.out.lt);have jle:=Lib.hid (zA.out.below h5 lhh);have h05:=h04.trans (h5.mono h04.size);clear hx4 hu jli zA h5 h04 hsl;go_wp2_with (refine zk rfl (.tmp 152) (.tmp 151) rfl rfl A7 _ c7 _ hx5.out rfl rfl hu5.out (fun w6 hx6 Hz=>?_);refine aU ?_)
     unfold Hid;have jlg:=Lib.hid (Hz.blk jlh.out (jlh.out.ne hx5.out.box (by decide)))
     have lQ:=Lib.hid (Hz.blk jle.out (jle.out.ne hx5.out.box (by decide)))
     have h06:=h05.trans (Hz.below (B:=W0.heap.size) (fun q hq=>by omega) h05.size)
     have QY:=Lib.hid hx6;clear hx6 Hz hx5 hu5 jlh jle h05;obtain ⟨gl,cl,curl,el,hgl,jgp,f0,f1,f2,f3⟩:=QY.out.own.bH (o:=a) (k:=c) haT hcT;obtain ⟨go,co,jg5,eo,hgo,jqO,d0,d1⟩:=QY.out.own.ay (o:=a) haT;change _=Value.slice (some ⟨gl,0,none⟩) (sT.order a).lines.length cl at el
     have c1:=QY.out.cells.2.1;rw [eo] at c1
     rw [el] at d1
     have el':=Lib.hid el;change w6.cell? _=some (.int .i64 (sT.line a c).back) at f3
     have u0:=lQ.out.cell (j:=0) rfl;have u1:=lQ.out.cell (j:=1) rfl;have u2:=lQ.out.cell (j:=2) rfl;have u3:=lQ.out.cell (j:=3) rfl;have lhh:=lQ.out.lt;have Xm:=QY.out.lt;have hai:(a:Int)<(sT.orders.length:Int):=by omega
     have hci:(c:Int)<((sT.order a).lines.length:Int):=by omega
     clear f0 f1 f2 d0 el eo;go_wp2_with fail;go_still_tail 15,(by kernel_rfl)
     change wpList _ _ _ _ _ w6.drew;refine qF rfl (.tmp 167) (.tmp 165) rfl rfl (i:=a) (k:=c) (j:=3) (y:={sT.line a c with back:=(sT.line a c).back+1}) QY.out.drew haT hcT el'.out (by decide) rfl rfl rfl (fun w7 hx7 uP=>?_)
     refine gy ?_
     have jbI:=Lib.hid (uP.blk jlg.out.drew (jlg.out.drew.ne jgp.drew (by decide)))
     have OI:=Lib.hid (uP.blk lQ.out.drew (lQ.out.drew.ne jgp.drew (by decide)))
     have h07:=h06.drew.trans (uP.below (B:=W0.heap.size) (fun q hq=>by omega) h06.drew.size)
     have pI:=Lib.hid hx7;clear hx7 uP QY jlg lQ h06 u0 u1 u2 u3 lhh Xm f3 d1 c1 jgp jqO;have u0:=OI.out.cell (j:=0) rfl;have u1:=OI.out.cell (j:=1) rfl;have lhh:=OI.out.lt;have lcb:=jbI.out.lt;have hcc:=jbI.out.cell (Iz (s:=s) (b:=i) (g:=j) (t:=t) ha4 hc3);have ha4i:(a:Int)<4:=by omega
     have hc3i:(c:Int)<3:=by omega
     go_wp2_with fail;go_still_tail 10,(by kernel_rfl)
     change wpList _ _ _ _ _ w7.drew;refine lH rfl (.tmp 177) (.tmp 175) rfl rfl kb (a*3+c) _ (jD s i j t a c+1) rfl rfl hcc (jbI.out.frozen _) (fun w8 hw8=>?_)
     refine gy ?_
     obtain ⟨jiy,hg8⟩:=pF jbI.out.drew (a*3+c) (.int .i64 (jD s i j t a c+1));rw [hw8] at jiy hg8
     have EF:Bx w8 base bx 31 [] _ _:=⟨pI.out.drew.box.grown hg8 (fun he=>by injection he with he;exact (jbI.out.ne pI.out.box (by decide)) he.symm),pI.out.drew.own.keptBy hg8 jbI.out.drew (by decide) (by decide) (by decide) (by decide) (by decide) (by decide),pI.out.ty⟩
     rw [← Uc hc3 jfL.out] at jiy
     have lN:=Lib.hid (show Bx w8 base bx 31 [] _ (mV s i j n (t+1)) by rw [jfM.out];exact EF)
     have joo:=Lib.hid jiy;have ug:=h07.drew.grown hg8 h07.drew.size (fun q hq=>by injection hq with hq;omega)
     clear u0 u1 lhh lcb hcc EF jiy hg8 hw8 pI jbI OI h07;go_wp2_with fail;go_roundg (over s i j n - (t+1)).toNat
     case rel=>exact ⟨t+1,_,rfl,by omega,by omega,lN.out,joo.out,ug⟩
     case measure=>rw [jbu.out];omega
    ·rw [he];clear he;have jfK:=jaT (seen:=n) hsn.out ht0 (k:=k) (by rw [jbq];exact hk) (by rw [jbq];exact hat) (by rw [jbq];exact hlast)
     rw [jbq,hsT] at jfK
     have hmr:=hst.out.aB hk;obtain ⟨gm,cm,curm,em,hgm,hbm,f0,f1,f2,f3⟩:=hx2.out.own.aB hk;obtain ⟨mm,hmm⟩:∃ mm,(aB sT.moves k).n=mm:=⟨_,rfl⟩;rw [hmm] at hmr f3 jfK
     obtain ⟨m0,hm0⟩:∃ m0,m0=mm - 1:=⟨_,rfl⟩;rw [← hm0] at jfK
     have hm1:1≤mm∧mm≤200:=by omega
     have hwn:IntKind.i64.wrap (mm - 1)=m0:=by rw [hm0];exact bf _ (by omega)
     have hmc:sT.moves.length≤cm:=Own.cap (by have:=hx2.out.own.moves;rw [em] at this;exact this)
     have p3:=hx2.out.cells.2.2.2.1;rw [em] at p3
     have em':=Lib.hid em;have hkn:(k:Int)<(sT.moves.length:Int):=by omega
     have hml8:=hst.out.lJ;have lgm:=hbm.lt;have Xm:=hx2.out.lt;have hpm:=Lib.hid jfK;have jnZ:=Lib.hid hm0;clear hmr f0 f1 f2 em hat hlast hmm hsT jbq WH jfK hm0;go_wp2_with (refine X3 rfl (.tmp 111) (.tmp 109) rfl rfl (k:=k) (q:=m0) hx2.out hk em'.out (by decide) rfl rfl (fun w3 hx3 hst3=>?_);refine aU ?_)
     unfold Hid;obtain ⟨L,hL⟩:∃ L:List Move,L=sT.moves.set k {aB sT.moves k with n:=m0}:=⟨_,rfl⟩
     rw [← hL] at hx3 hpm
     have hLl:L.length=sT.moves.length:=by rw [hL,pY]
     have hLk:(aB L k).n=m0:=by rw [hL,OE hk]
     have hLe:L.eraseIdx k=sT.moves.eraseIdx k:=by rw [hL,DC]
     have jgs:=Lib.hid (hst3.blk hbk2.out (hbk2.out.ne hbm (by decide)))
     have h03:=h02.trans (hst3.below (B:=W0.heap.size) (fun q hq=>by omega) h02.size)
     have TM:=Lib.hid hx3;clear hx3 hst3 hx2 hbk2 h02 p3 f3 hbm hL lgm Xm;obtain ⟨gm',cm',curm',em2,_,hbm,f0,f1,f2,f3⟩:=TM.out.own.aB (k:=k) (show k<L.length by omega)
     rw [em'.out] at em2
     injection em2 with e1 e2 e3
     injection e1 with e1
     injection e1 with e1
     subst e1;clear e2 e3 f0 f1 f2;change w3.cell? _=some (.int .i64 (aB L k).n) at f3
     rw [hLk] at f3
     have p3:=TM.out.cells.2.2.2.1;rw [em'.out] at p3
     have lgm:=hbm.lt;have Xm:=TM.out.lt;have joO:=Lib.hid hLl;have joP:=Lib.hid hLe;clear hbm hLk hLl hLe;by_cases hz:mm=1
     ·obtain rfl:m0=0:=by have:=jnZ.out;omega
      have hz':=Lib.hid hz;have hMv:=Lib.hid (show ∀ W,Below w3.heap.size w3 W→At W W.heap.size (some ⟨gm,0,none⟩) (L.flatMap gV) from fun W hW=>by
       have h:=(TM.out.below hW).own.moves.sl (by show L.length≤_;have:=joO.out;omega)
       rw [em'.out] at h
       exact h.at_)
      have hLn:=joO.out;have hlt:(L.take k).length=k:=by rw [dS];omega
      have hld:(L.drop (k+1)).length=sT.moves.length - (k+1):=by rw [jT,hLn]
      have hba:Below w3.heap.size w3 (w3.alloc (.cells #[] 48)).drew:=((aj _ _).alloc (aA _) _).drew;have hown0:Own gV 4 48 (w3.alloc (.cells #[] 48)).drew w3.heap.size (.slice (some ⟨w3.heap.size,0,none⟩) 0 0) []:=(Own.QM w3 _ (aA _):Own gV 4 48 (w3.alloc (.cells #[] 48)) w3.heap.size (.slice (some ⟨w3.heap.size,0,none⟩) 0 0) []);obtain ⟨v1,w1,hr1,hown1,hg1,hb1⟩:=yF _ w3.heap.size _ [] (L.take k) hown0 gm 0 cm _ (At.head (ys:=(L.drop k).flatMap gV) (by rw [← lD,Ba];exact hMv.out _ hba)) (by rw [hlt];simp only [je];omega) hba.size
      rw [hlt] at hr1
      rw [lq] at hown1
      have h81:=hba.trans hb1;obtain ⟨A1',c1',rfl⟩:=hown1.isSlice;rw [hlt] at hr1 hown1
      have zN:∃ o7,At w1 w1.heap.size (some ⟨gm,o7,none⟩) ((L.drop (k+1)).flatMap gV)∧(cm=k+1∧o7=0∨¬ cm=k+1∧o7=(k+1)*4):=by
       by_cases hcq:cm=k+1
       ·refine ⟨0,?_,.inl ⟨hcq,rfl⟩⟩
        have:L.drop (k+1)=[]:=PS (by omega)
        rw [this];exact At.nil
       ·refine ⟨(k+1)*4,?_,.inr ⟨hcq,rfl⟩⟩
        have h2:=hMv.out _ h81;rw [← Ba (k+1) L,lD] at h2
        have h3:=h2.tail;rwa [flat_length gV 4 (fun _=>rfl),dS,pW (by omega),iV] at h3
      obtain ⟨o7,hA7,zN⟩:=zN;obtain ⟨v2,w2,hr2,hown2,hg2,hb2⟩:=yF w1 w3.heap.size (.slice A1' k c1') (L.take k) (L.drop (k+1)) hown1 gm o7 (cm - (k+1)) _ hA7 (by rw [hlt,hld];omega) h81.size
      rw [hld] at hr2
      try rw [hlt] at hr2
      rw [← Ls] at hown2
      obtain ⟨NQ,c2',rfl⟩:=hown2.isSlice;have h82:=h81.trans hb2;have h02:=h03.trans (h82.mono h03.size);have hx2:=TM.out.below h82;have hO2:=Lib.hid (show aO w2 base {V with moves:=.slice NQ (L.eraseIdx k).length c2'} {sT with moves:=L.eraseIdx k} from hx2.own.QG (Pq w2 _) (hown2.from_ (by have:=TM.out.lt;omega)))
      have hbx2:=Lib.hid hx2.kW;have hbk2:=Lib.hid (jgs.out.below h82 jgs.out.lt);have p3a:=((TM.out.below h81).cells.2.2.2.1).trans (fO some em'.out);have b3:=hx2.cells.2.2.2.1.trans (fO some em'.out);have b3f:w2.frozen? ⟨bx,3,none⟩=false:=hx2.kW.blk.frozen 3;have l81:=h81.size;have l82:=h82.size;have hr1':=Lib.hid hr1;have hr2':=Lib.hid hr2;have q1:k≤cm:=by omega
      have q2:(k:Int)≤(cm:Int):=by omega
      have q3:(0:Int)≤(k:Int)+1:=by omega
      have q4:(k:Int)+1≤(sT.moves.length:Int):=by omega
      have q5:((k:Int)+1).toNat=k+1:=by omega
      have q6:¬ (cm=0):=by omega
      have q7:IntKind.i64.wrap ((k:Int)+1)=(k:Int)+1:=bf _ (by omega)
      have jrh:=Lib.hid h82;clear hown0 hown1 hown2 hr1 hr2 hA7 hx2 hg1 hg2 hb1 hb2 hba h81 h82 hlt hld TM jgs h03 hLn hz;rcases zN with ⟨hcq,zN⟩|⟨hcq,zN⟩
      ·subst zN;have jbA:(cm=k+1)=True:=eq_true hcq;clear hcq;go_wp2_with fail;clear f3;go_region_law (first|refine jv _ rfl (.tmp 119) (.tmp 123) 29 29 rfl (.slice (some ⟨w3.heap.size,0,none⟩) 0 0) (.slice (some ⟨gm,0,none⟩) k cm) (by simp [Act.eval,Act.put]) (by simp [Act.eval,Act.put]) hr1'.out ?_|refine jv _ rfl (.tmp 124) (.tmp 129) 29 29 rfl (.slice A1' k c1') (.slice (some ⟨gm,0,none⟩) (sT.moves.length - (k+1)) (cm - (k+1))) (by simp [Act.eval,Act.put]) (by simp [Act.eval,Act.put]) hr2'.out ?_)
       all_goals
        clear p3 p3a b3 b3f q1 q2 q3 q4 q5 q6 q7 jbA;obtain ⟨tJ,vC⟩:=Bx.set' (V:=V) (V':={V with moves:=.slice NQ (L.eraseIdx k).length c2'}) (s':={sT with moves:=L.eraseIdx k}) (rest:=[]) (by rw [mJ];exact hbx2.out.blk) hO2.out SN 3 (.slice NQ (L.eraseIdx k).length c2') rfl
        have jQ:=Lib.hid (show Bx (w2.setCell ⟨bx,3,none⟩ (.slice NQ (L.eraseIdx k).length c2')) base bx 31 [] {V with moves:=.slice NQ (L.eraseIdx k).length c2'} (mV s i j n (t+1)) by rw [hpm.out.1,ak hz'.out,← joP.out];exact tJ)
        have Zk:=Lib.hid (show dw (w2.setCell ⟨bx,3,none⟩ (.slice NQ (L.eraseIdx k).length c2')) kb 104 (oG s i j (t+1)) by rw [DZ hpm.out.2];exact hbk2.out.grown vC (fun he=>by injection he with he;exact (hbk2.out.ne hbx2.out.blk (by decide)) he))
        have h010:=zh h02 vC h02.size (fun k hk=>by injection hk with hk;omega)
        clear tJ vC hbx2 hO2 hr1' hr2' hbk2 l81 l82 h02;generalize w2.setCell ⟨bx,3,none⟩ (.slice NQ (L.eraseIdx k).length c2')=w10 at jQ Zk h010 ⊢
        go_wp2_with fail;go_roundg (over s i j n - (t+1)).toNat
        case rel=>exact ⟨t+1,_,rfl,by omega,by omega,jQ.out,Zk.out,h010⟩
        case measure=>rw [jbu.out];omega
      ·subst zN;have jbA:=hcq;clear hcq;go_wp2_with fail;clear f3;go_region_law (first|refine jv _ rfl (.tmp 119) (.tmp 123) 29 29 rfl (.slice (some ⟨w3.heap.size,0,none⟩) 0 0) (.slice (some ⟨gm,0,none⟩) k cm) (by simp [Act.eval,Act.put]) (by simp [Act.eval,Act.put]) hr1'.out ?_|refine jv _ rfl (.tmp 124) (.tmp 129) 29 29 rfl (.slice A1' k c1') (.slice (some ⟨gm,(k+1)*4,none⟩) (sT.moves.length - (k+1)) (cm - (k+1))) (by simp [Act.eval,Act.put]) (by simp [Act.eval,Act.put]) hr2'.out ?_)
       all_goals
        clear p3 p3a b3 b3f q1 q2 q3 q4 q5 q6 q7 jbA;obtain ⟨tJ,vC⟩:=Bx.set' (V:=V) (V':={V with moves:=.slice NQ (L.eraseIdx k).length c2'}) (s':={sT with moves:=L.eraseIdx k}) (rest:=[]) (by rw [mJ];exact hbx2.out.blk) hO2.out SN 3 (.slice NQ (L.eraseIdx k).length c2') rfl
        have jQ:=Lib.hid (show Bx (w2.setCell ⟨bx,3,none⟩ (.slice NQ (L.eraseIdx k).length c2')) base bx 31 [] {V with moves:=.slice NQ (L.eraseIdx k).length c2'} (mV s i j n (t+1)) by rw [hpm.out.1,ak hz'.out,← joP.out];exact tJ)
        have Zk:=Lib.hid (show dw (w2.setCell ⟨bx,3,none⟩ (.slice NQ (L.eraseIdx k).length c2')) kb 104 (oG s i j (t+1)) by rw [DZ hpm.out.2];exact hbk2.out.grown vC (fun he=>by injection he with he;exact (hbk2.out.ne hbx2.out.blk (by decide)) he))
        have h010:=zh h02 vC h02.size (fun k hk=>by injection hk with hk;omega)
        clear tJ vC hbx2 hO2 hr1' hr2' hbk2 l81 l82 h02;generalize w2.setCell ⟨bx,3,none⟩ (.slice NQ (L.eraseIdx k).length c2')=w10 at jQ Zk h010 ⊢
        go_wp2_with fail;go_roundg (over s i j n - (t+1)).toNat
        case rel=>exact ⟨t+1,_,rfl,by omega,by omega,jQ.out,Zk.out,h010⟩
        case measure=>rw [jbu.out];omega
     ·have hz0:(m0==0)=false:=by
       have h:=jnZ.out;simp
       omega
      have hxn:=Lib.hid (show Bx w3 base bx 31 [] V (mV s i j n (t+1)) by rw [hpm.out.1,ah hz];exact TM.out)
      have hbn:=Lib.hid (show dw w3 kb 104 (oG s i j (t+1)) by rw [DZ hpm.out.2];exact jgs.out)
      clear TM jgs;go_wp2_with fail;clear p3 f3;go_roundg (over s i j n - (t+1)).toNat
      case rel=>exact ⟨t+1,V,rfl,by omega,by omega,hxn.out,hbn.out,h03⟩
      case measure=>rw [jbu.out];omega
   ·have hlt':=iU hlt;obtain rfl:t=over s i j n:=by unfold over at ht1 ⊢;omega
    have hx1:=Lib.hid (show Bx W1 base bx 31 [] V (ctO p s i j n 0) from hxr.out.below h1)
    have hbk1:=Lib.hid (jdL.out.below h1 jdL.out.lt);have h01:=h0r.trans (h1.mono h0r.size);obtain ⟨Ao,co,hvo⟩:=hx1.out.own.vW;rw [(Jl hc'.out hf.out (aT _)).2.1] at hvo
    have yt:=Lib.hid hvo;have hfin:=Lib.hid (ZQ hc'.out hf.out);have h4:=hsn.out.jh;obtain ⟨cells,hcells⟩:∃ cells,cells=oG s i j (over s i j n):=⟨_,rfl⟩;rw [← hcells] at hbk1
    have hcells':=Lib.hid hcells;clear hxr jdL h1 hBr h0r Xm hvo hst jbu hr hcells;go_wp2_with fail;clear hlt' hlt;go_loopw [17,18] (fun o _ wr=>∃ (q:Nat) (V':SV),V'={V with holds:=V'.holds}∧q≤s.orders.length∧o=.int .i64 q∧Bx wr base bx 31 [] V' (ctO p s i j n q)∧dw wr kb 104 cells∧Below W0.heap.size W0 wr) (fun o _ _=>s.orders.length - (RowKit.intOf o).toNat)
    case atStart=>exact ⟨0,V,rfl,aT _,rfl,hx1.out,hbk1.out,h01⟩
    case round=>
     clear hx1 hbk1 h01;obtain ⟨q,V',hV,hq,rfl,hx,hbk,h0⟩:=hrel;have hx':=Lib.hid hx;have hbk':=Lib.hid hbk;have Ji:=Lib.hid (show V'.orders=.slice Ao s.orders.length co by rw [hV];exact yt.out)
     have hV':=Lib.hid hV;have c1:=hx.cells.2.1;rw [Ji.out] at c1
     have Xm:=hx.lt;clear hx hbk hV;by_cases hlt:q<s.orders.length
     ·have hqi:(q:Int)<(s.orders.length:Int):=by omega
      have hq4:q<4:=by omega
      have hq4i:(q:Int)<4:=by omega
      have l13:=hsn.out.jX hlt;have hx0:=Lib.hid (show Bx wr base bx 31 [] V' (O9 p s i j n q 0) from hx'.out)
      clear hx';go_wp2_with fail;clear c1 Xm;go_loopw [18] (fun kv wr=>∃ (k:Nat) (V':SV),V'={V with holds:=V'.holds}∧k≤(s.order q).lines.length∧kv=.int .i64 k∧Bx wr base bx 31 [] V' (O9 p s i j n q k)∧dw wr kb 104 cells∧Below W0.heap.size W0 wr) (fun kv _=>(s.order q).lines.length - (RowKit.intOf kv).toNat)
      case atStart=>exact ⟨0,V',hV'.out,aT _,rfl,hx0.out,hbk'.out,h0⟩
      case round=>
       clear hx0 hbk' h0 Ji hV' V';obtain ⟨k,V',hV,hkl,rfl,hx,hbk,h0⟩:=hrel;have hx':=Lib.hid hx;have hbk':=Lib.hid hbk;have Ji:=Lib.hid (show V'.orders=.slice Ao s.orders.length co by rw [hV];exact yt.out)
       have hV':=Lib.hid hV;obtain ⟨hrt,hlen,zI⟩:=jd4 hc'.out hf.out hlt hkl;have Y7:=Lib.hid hrt;have hoq:q<(O9 p s i j n q k).orders.length:=by rw [hlen];exact hlt
       have jii:=zI q hlt;obtain ⟨go,_,_,eo,_,_,_,z1⟩:=hx'.out.own.ay hoq;obtain ⟨gl,cl,curl,el,hgl,jgp,_⟩:=hx'.out.own.bH (o:=q) (k:=0) hoq (by rw [jii];omega)
       rw [Ji.out] at eo
       injection eo with eo e2 e3
       subst eo;clear e2 e3;rw [el,jii] at z1
       rw [jii] at el
       have c1:=hx'.out.cells.2.1;rw [Ji.out] at c1
       have Xm:=hx'.out.lt;have el':=Lib.hid el;have jnR:=Lib.hid hoq;clear hx hbk hV hrt hlen zI hoq jii el jgp;by_cases hkt:k<(s.order q).lines.length
       ·have hki:(k:Int)<((s.order q).lines.length:Int):=by omega
        have hk3:k<3:=by omega
        have hk3i:(k:Int)<3:=by omega
        have hcc:=hbk'.out.cell (j:=q*3+k) (v:=.int .i64 (jD s i j (over s i j n) q k)) (by rw [hcells'.out];exact Iz hq4 hk3)
        have lcb:=hbk'.out.lt;by_cases hpos:0<jD s i j (over s i j n) q k
        ·have hmay:=Lib.hid (jiV hc'.out hf.out hlt hkt hpos);obtain ⟨s1,x,hs1,hxx⟩:∃ s1 x,(ji p (O9 p s i j n q k) q k (jD s i j (over s i j n) q k) i).1=s1∧(ji p (O9 p s i j n q k) q k (jD s i j (over s i j n) q k) i).2=x:=⟨_,_,rfl,rfl⟩;have jnL:=Lib.hid (show O9 p s i j n q (k+1)=s1 from hs1)
         have hs1':=Lib.hid hs1;have jdB:=Lib.hid hxx;have joe:=Lib.hid (show cells[q*3+k]?=some (.int .i64 (jD s i j (over s i j n) q k)) by rw [hcells'.out];exact Iz hq4 hk3)
         clear hs1 hxx;generalize jD s i j (over s i j n) q k=nv at hmay jdB hs1' hcc joe hpos
         have hpos':=lg hpos;have hbase:base≤wr.drew.heap.size:=by show base≤wr.heap.size;omega
         have hT0:ctT W0 base bx V' (O9 p s i j n q k) s1 kb cells 0 wr.drew:=⟨⟨h0.drew,hbase,hx'.out.drew⟩,hbk'.out.drew⟩;have jgA:=Lib.hid hT0;clear hbase hT0;go_wp2_with fail;clear z1 c1 hcc lcb Xm hpos hpos';refine GX 15 (ctT W0 base bx V' (O9 p s i j n q k) s1 kb cells) (fun k' w1 w2=>ctT W0 base bx V' (O9 p s i j n q k) s1 kb cells k' w1→ctT W0 base bx V' (O9 p s i j n q k) s1 kb cells (k'+1) w2) 10 14 (by decide) (by decide) (by decide) (fun o ho=>by injection ho with ho;subst ho;exact ⟨⟨10,.chain⟩,by simp,rfl,rfl⟩)
          [fun _ gq _=>gq 203=.agg #[.slice Ab p.aH.length cb,.slice As p.sizes.length cs],fun ph gq w'=>(fun (ph:Nat) (v:Value) (_:World)=>∃ Vq:SV,v=Vq.val∧(ph=0→Vq=V')) ph (gq 204) w',fun _ gq _=>gq 205=.int .i64 q,fun _ gq _=>gq 206=.int .i64 k,fun _ gq _=>gq 207=.int .i64 q,fun _ gq _=>gq 208=.int .i64 k,
           fun _ gq _=>gq 209=.pointer (some ⟨kb,q*3,none⟩),fun _ gq _=>gq 210=.pointer (some ⟨kb,q*3+k,none⟩),fun _ gq _=>gq 211=.int .i64 nv,fun _ gq _=>gq 212=.int .i64 i,
           fun ph gq w'=>zW base V' s1 (fun v=>.tuple #[v,.int .i64 x]) ph (gq 213) w',fun ph gq w'=>zW base V' s1 (fun v=>.tuple #[v,.int .i64 x]) ph (gq 202) w',fun ph gq w'=>zW base V' s1 id ph (gq 214) w',fun _ gq _=>gq 215=.int .i64 x,fun ph gq w'=>ph=2∧True] (by kernel_rfl) (by kernel_rfl) rfl (by kernel_rfl)
          (fun ph w1 w2 h h'=>jd3 h h') (fun k w1 w2 _ h h'=>h' h) jgA.out ?_ (fun f w2 hb2 hR=>?_)
         simp only [eY,eG];refine oM.cons (CV.val rfl rfl (by decide) (by decide) (fun ph gq w' hb ho hd=>?_)) ?_
         ·have e5:=ho 5 rfl;obtain ⟨⟨y0,y1⟩,x0,x1,x2,x3,x4,x5,x6,aV,aW⟩:=hK.out w' (hb.1.1);go_simp
         refine oM.cons (CV.one (d:=204) (p:=fun (ph:Nat) (v:Value) (_:World)=>∃ Vq:SV,v=Vq.val∧(ph=0→Vq=V')) rfl rfl (by decide) (by decide) (fun ph v w1 w2 h hb=>h) (fun k v w1 w2 _ h hb=>by
           obtain ⟨Vq,h1,h2⟩:=h;exact ⟨Vq,h1,fun h=>by omega⟩) (fun ph gq w' hb ho hd=>?_)) ?_
         ·have e13:=ho 13 rfl;obtain ⟨Vb,hvb,jbh,hvv⟩:=Yn hb.1;clear jbh;obtain ⟨b0,b1,b2,b3,b4,b5,b6⟩:=hvb.cells;have jfw:=Lib.hid hvv;clear hvv hvb;unfold dO;go_simp
          exact ⟨⟨Vb,rfl,jfw.out⟩,aj _ _⟩
         refine oM.cons (CV.val rfl rfl (by decide) (by decide) (fun ph gq w' hb ho hd=>?_)) ?_
         ·have e17:=ho 17 rfl;go_simp
         refine oM.cons (CV.val rfl rfl (by decide) (by decide) (fun ph gq w' hb ho hd=>?_)) ?_
         ·have e18:=ho 18 rfl;go_simp
         refine oM.cons (CV.val rfl rfl (by decide) (by decide) (fun ph gq w' hb ho hd=>?_)) ?_
         ·have e17:=ho 17 rfl;go_simp
         refine oM.cons (CV.val rfl rfl (by decide) (by decide) (fun ph gq w' hb ho hd=>?_)) ?_
         ·have e18:=ho 18 rfl;go_simp
         refine oM.cons (CV.val rfl rfl (by decide) (by decide) (fun ph gq w' hb ho hd=>?_)) ?_
         ·have e14:=ho 14 rfl;have e207:gq 207=.int .i64 q:=hd ⟨4,.data⟩ (by simp) rfl (by decide)
          go_simp
         refine oM.cons (CV.val rfl rfl (by decide) (by decide) (fun ph gq w' hb ho hd=>?_)) ?_
         ·have e209:gq 209=.pointer (some ⟨kb,q*3,none⟩):=hd ⟨6,.data⟩ (by simp) rfl (by decide)
          have e208:gq 208=.int .i64 k:=hd ⟨5,.data⟩ (by simp) rfl (by decide)
          go_simp
         refine oM.cons (CV.val rfl rfl (by decide) (by decide) (fun ph gq w' hb ho hd=>?_)) ?_
         ·have e210:gq 210=.pointer (some ⟨kb,q*3+k,none⟩):=hd ⟨7,.data⟩ (by simp) rfl (by decide)
          have hcc:=hb.2.cell joe.out;go_simp
         refine oM.cons (CV.val rfl rfl (by decide) (by decide) (fun ph gq w' hb ho hd=>?_)) ?_
         ·have e2:=ho 2 rfl;go_simp
         refine oM.cons (CV.first (d:=213) (p:=zW base V' s1 (fun v=>.tuple #[v,.int .i64 x])) rfl rfl (fun ph v w1 w2 h hb=>xW h hb) (fun v w1 w2 h hb=>Ap (aA _) h) (fun gq w' hb ho hd=>?_)) ?_
         ·have e203:gq 203=.agg #[.slice Ab p.aH.length cb,.slice As p.sizes.length cs]:=hd ⟨0,.data⟩ (by simp) rfl (by decide)
          have e204:∃ Vq:SV,gq 204=Vq.val∧((0:Nat)=0→Vq=V'):=hd ⟨1,.data⟩ (by simp) rfl (by decide)
          have e205:gq 205=.int .i64 q:=hd ⟨2,.data⟩ (by simp) rfl (by decide)
          have e206:gq 206=.int .i64 k:=hd ⟨3,.data⟩ (by simp) rfl (by decide)
          have e211:gq 211=.int .i64 nv:=hd ⟨8,.data⟩ (by simp) rfl (by decide)
          have e212:gq 212=.int .i64 i:=hd ⟨9,.data⟩ (by simp) rfl (by decide)
          obtain ⟨Vq,e204,hVV⟩:=e204;obtain rfl:=(hVV rfl).symm;have hb':=Lib.hid hb;clear hb hVV;unfold dO;go_simp
          refine (jeR w' _ p (O9 p s i j n q k) q k nv i (hP'.out _ (hb0.trans (hb'.out.1.1.mono hb0.size))) Y7.out hmay.out (Bx.own hb'.out.1.2.2) hb'.out.1.2.1).mono ?_
          rintro e w9 ⟨V9,hV9,rfl,zD,mQ⟩;have FH:aO w9 base V9 s1:=by rw [← hs1'.out];exact zD
          rw [jdB.out];refine ⟨_,rfl,⟨V9,hV9,rfl,FH⟩,fun _=>⟨⟨hb'.out.1.1.trans (mQ.below (B:=W0.heap.size) (fun r hr=>by
           rw [el'.out] at hr
           change some gl=some r at hr
           injection hr with hr
           omega) hb'.out.1.1.size),bJ hb'.out.1.2.1 mQ.size,mQ.blk (Bx.kW hb'.out.1.2.2).blk ?_,V9,hV9,FH⟩,mQ.blk hb'.out.2 ?_⟩⟩
          ·rcases Own.iD ((Bx.own hb'.out.1.2.2).line q jnR.out) (Bx.kW hb'.out.1.2.2).blk (by decide) with h|h
           ·rw [h];simp
           ·exact h
          ·rcases Own.iD ((Bx.own hb'.out.1.2.2).line q jnR.out) hb'.out.2 (by decide) with h|h
           ·rw [h];simp
           ·exact h
         refine oM.cons (CV.one (d:=202) (p:=zW base V' s1 (fun v=>.tuple #[v,.int .i64 x])) rfl rfl (by decide) (by decide) (fun ph v w1 w2 h hb=>xW h hb) (fun k v w1 w2 hk h hb=>Ap hk h) (fun ph gq w' hb ho hd=>?_)) ?_
         ·have e213:zW base V' s1 (fun v=>.tuple #[v,.int .i64 x]) ph (gq 213) w':=hd ⟨10,.data⟩ (by simp) rfl (by decide)
          have jo5:=Lib.hid e213;clear e213;unfold dO;go_simp
          exact ⟨jo5.out,aj _ _⟩
         refine oM.cons (CV.one (d:=214) (p:=zW base V' s1 id) rfl rfl (by decide) (by decide) (fun ph v w1 w2 h hb=>xW h hb) (fun k v w1 w2 hk h hb=>Ap hk h) (fun ph gq w' hb ho hd=>?_)) ?_
         ·have Si:zW base V' s1 (fun v=>.tuple #[v,.int .i64 x]) ph (gq 202) w':=hd ⟨11,.data⟩ (by simp) rfl (by decide)
          rcases ph with _|_|ph
          ·exact Si.elim
          ·obtain ⟨V7,hV7,Si,zN⟩:=Si;have WC:=Lib.hid zN;have jlp:=Lib.hid hV7;clear zN hV7;unfold dO;go_simp
           exact ⟨⟨V7,jlp.out,rfl,WC.out⟩,aj _ _⟩
          ·obtain ⟨V7,Si⟩:=Si;unfold dO;go_simp
           exact ⟨⟨V7,rfl⟩,aj _ _⟩
         refine oM.cons (CV.val rfl rfl (by decide) (by decide) (fun ph gq w' hb ho hd=>?_)) ?_
         ·have Si:zW base V' s1 (fun v=>.tuple #[v,.int .i64 x]) ph (gq 202) w':=hd ⟨11,.data⟩ (by simp) rfl (by decide)
          have jo6:∃ V7:SV,gq 202=.tuple #[V7.val,.int .i64 x]:=by
           rcases ph with _|_|ph
           ·exact Si.elim
           ·obtain ⟨V7,_,h,_⟩:=Si;exact ⟨V7,h⟩
           ·exact Si
          clear Si;obtain ⟨V7,Si⟩:=jo6;go_simp
         refine oM.cons (CV.second (p:=fun _ _=>True) (by decide) rfl (fun gq w1 w2 h hb=>bP) (fun gq gq' w1 he h=>bP) (fun gq w' hb ho hd=>?_)) ?_
         ·have e13:=ho 13 rfl;have e214:zW base V' s1 id 1 (gq 214) w':=hd ⟨12,.data⟩ (by simp) rfl (by decide)
          obtain ⟨V7,hV7,e214,zN⟩:=e214;refine F6 (.tmp 13) (.tmp 214) rfl bx V' V7 hb.1.2.2.1 e13 e214 zN.one (fun w8 H9 hg8=>?_)
          exact ⟨bP,fun _=>⟨⟨hb.1.1.grown hg8 hb.1.1.size (fun r hr=>by injection hr with hr;omega),bJ hb.1.2.1 hg8.size,V7,hV7,Bx.of H9 (zN.keptBy hg8 hb.1.2.2.1.blk (by decide) (by decide) (by decide) (by decide) (by decide) (by decide))⟩,
           hb.2.grown hg8 (fun he=>by injection he with he;exact (hb.2.ne hb.1.2.2.1.blk (by decide)) he)⟩⟩
         exact oM.nil;obtain ⟨jmO,⟨Vx,jmN,_⟩,jmM,jmL,jmK,jmJ,jmI,jmH,jmG,jmF,⟨V1,jmE⟩,⟨V2,jmP⟩,⟨V3,jmD⟩,jmC,_⟩:=hR;simp only [fU,qZ,eY,eG,lF,mG,mF,mD,jH,mg,iW,iy,iJ,jmO,jmN,jmM,jmL,jmK,jmJ,jmI,jmH,jmG,jmF,jmE,jmP,jmD,jmC];clear jmO jmN jmM jmL jmK jmJ jmI jmH jmG jmF jmE jmP jmD jmC;refine gy ?_
         obtain ⟨⟨h09,_,V9,hV9,qj⟩,jon⟩:=hb2;have jgz:=Lib.hid (Ql hV9 hV'.out);have sQ:=Lib.hid (show Bx w2 base bx 31 [] V9 (O9 p s i j n q (k+1)) by rw [jnL.out];exact qj)
         have jom:=Lib.hid jon;clear qj jon hV9 hx' hbk' hV' Ji hmay Y7 el' hs1' jnL jdB jgA;go_wp2_with fail;go_roundw
         case rel=>exact ⟨k+1,V9,jgz.out,by omega,by go_num,sQ.out,jom.out,h09⟩
         case measure=>simp [RowKit.intOf];omega
        ·have hsk:=Lib.hid (jg7 (p:=p) hpos);have hpos':=iU hpos;have hx2:=Lib.hid (show Bx wr base bx 31 [] V' (O9 p s i j n q (k+1)) by rw [hsk.out];exact hx'.out)
         clear hx' hpos;go_wp2_with fail;clear c1 z1 hcc lcb Xm;go_roundw
         case rel=>exact ⟨k+1,V',hV'.out,by omega,by go_num,hx2.out,hbk'.out,h0⟩
         case measure=>simp [RowKit.intOf];omega
       ·obtain rfl:k=(s.order q).lines.length:=by omega
        have hx2:=Lib.hid (show Bx wr base bx 31 [] V' (ctO p s i j n (q+1)) by rw [← jiW hc'.out hf.out hlt];exact hx'.out)
        clear hx';go_wp2_with fail;clear c1 z1 Xm;go_roundw
        case rel=>exact ⟨q+1,V',hV'.out,by omega,by go_num,hx2.out,hbk'.out,h0⟩
        case measure=>simp [RowKit.intOf];omega
     ·obtain rfl:q=s.orders.length:=by omega
      have hB0:=hb0.trans (h0.mono hb0.size);have hx2:=Lib.hid (show Bx wr base bx 31 [] V' (zL p s i j n) by rw [← jiT];exact hx'.out)
      have hvv:=Ji.out;clear hx' Ji hV';obtain ⟨a0,a1,a2,a3,a4,a5,a6,a7,a8⟩:=V';obtain rfl:a1=.slice Ao s.orders.length co:=hvv;have aX:=hR.out _ h0;obtain ⟨b0,b1,b2,b3,b4,b5,b6⟩:=dN.cells hx2.out.kW;have eU:=aO.one hx2.out.own;go_wp2_with (refine aK (.tmp 10) (.tmp 216) aP (⟨a0,.slice Ao s.orders.length co,a2,a3,a4,a5,a6,a7,a8⟩:SV) rfl aX rfl eU (fun w9 aN dh=>?_))
      have ng:=aO.keptBy hx2.out.own dh aX (by decide) (by decide) (by decide) (by decide) (by decide) (by decide)
      have aQ:=Below.bG hB0 dh;clear b0 b1 b2 b3 b4 b5 b6;go_wp2_with fail;exact dn results21 aN rfl rfl (wH hfin.out (ng.from_ hle) aQ)
 ·have hne:(checkState p s!=0)=true:=by simpa using hc
  have hfin:=Lib.hid (Ve (b:=b) (g:=g) (n:=n) hc);clear hc;have aX:=hR.out _ h1;go_wp2_with (refine aK (.tmp 10) (.tmp 24) aP aP rfl aX rfl rfl (fun w9 aN dh=>?_))
  have aQ:=Below.bG hB1 dh;go_wp2_with fail;exact dn results21 aN rfl rfl (dF hfin.out aQ)
end Wh
