/- Texts of the claim, joined. -/
import Derived.RangeFuncBox
import Derived.RangeFuncCalls
import Derived.RangeFuncNested
import Derived.OrdersIn
import Derived.Test.YtfhfkijmebhgmaaGreatK21
import Derived.Test.YtfhfkijmebhgmaaGreatK04
set_option maxHeartbeats 20000000
set_option maxRecDepth 100000
namespace Wh
open Go Go.RowKit Go.Shelf Go.Proofs Tryz
attribute [local go_sem] aT jW jm kC
attribute [local go_sem] Oper.semAt_some
theorem jon(w:World)(v vs:Value)(p:dA)(s:aJ)(hp:mW w w.heap.size v p)(hv:lK w w.heap.size vs s):
  Calls prog 49 #[v,vs] w (nN (fill p s) w):=by
 obtain⟨Ab,cb,As,cs,rfl,hP',hBn,hSz,hlb,hls⟩:=sN hp;obtain⟨A0,c0,A1,c1,A2,c2,A3,c3,A4,c4,A5,c5,A6,c6,rfl,hV,hN,hO,hH,hM,hI,hU,hX,hl0,hl1,hl2,hl3,hl4,hl5,JA⟩:=oW hv;refine(iQ (n:=9)).1 ?_
 refine callsIn_of_wp_marks func49 rfl trivial ?_ rfl
 simp only[ntmps49,jP,dw,dY,Nat.reduceAdd,Nat.reduceSub,jG,jF,kF,jO,iy,jK];refine xI.2 ?_
 go_wp2_with fail;obtain⟨W0,hW0,hb0,lg,uZ,hsE,hK,hR⟩:=yD w p s Ab cb As cs A0 c0 A1 c1 A2 c2 A3 c3 A4 c4 A5 c5 A6 c6;rw[hW0];clear hW0;go_step3
 obtain⟨⟨y0,y1⟩,x0,x1,x2,x3,x4,x5,x6,eP,eU⟩:=hK.O W0 (aj W0.heap.size W0);go_wp2_with fail;clear y0 y1 x0 x1 x2 x3 x4 x5 x6 eP eU;refine(Nz _ _ _ p s (hP'.O _ hb0) (hV.O _ hb0)).mono ?_
 rintro e W1 ⟨rfl,h1⟩;have hB1:=hb0.trans (h1.mono hb0.size);obtain⟨⟨y0,y1⟩,x0,x1,x2,x3,x4,x5,x6,eP,eU⟩:=hK.O W1 (h1);by_cases hc:aQ p s=0
 ·have hc':=ah hc;have hsn:=ah (kM.1 hc).1;have bK:=ah (jfo hc);rw[hc];clear hc;have hcnt:=hsn.O.counts;go_wp2_with fail;clear y0 y1 x0 x1 x2 x3 x4 x5 x6 eP eU;refine(ja1 _ _ p s (hV.O _ hB1) hsn.O).mono ?_
  rintro e W5 ⟨_,rfl,⟨V5,rfl,AY⟩,h5⟩;obtain⟨Ic,con,_,_,_,_,Ot,_⟩:=AY.Py (b:=0) (g:=0) (by rw[hsn.O.tY];omega) (by rw[hsn.O.rowLen (by omega)];omega)
  obtain⟨k0,k1,k2,k3,k4,k5,k6,k7,k8⟩:=V5;obtain rfl:k0=.slice (some ⟨Ic,0,none⟩) s.on.length con:=Ot;have pq:=(AY).one;have xw:=vG (W5);go_wp2_with (refine dB (.tmp 7) (.tmp 24) dH (⟨.slice (some ⟨Ic,0,none⟩) s.on.length con,k1,k2,k3,k4,k5,k6,k7,k8⟩:SV) rfl xw rfl pq (λw6 lM Ib=>?_);refine aW ?_)
  unfold Hid;have sG:=qX Ib;have vT:=lM.lt;clear pq xw Ib;have hx6:=ah (Bx.of lM (AY.below sG));have h06:=h1.trans ((h5.trans (sG.mono h5.size)).mono h1.size);have hle:w.heap.size<=W1.heap.size:=hB1.size;have hle0:W0.heap.size<=W1.heap.size:=h1.size;have zZ:W1.heap.size<=W5.heap.size:=h5.size;clear lM AY sG h5 vT h1 hB1;generalize W1.heap.size=aO at hx6 hle hle0 zZ
  generalize W5.heap.size=bx at hx6 zZ ⊢
  have vT:bx<w6.heap.size:=hx6.O.lt;obtain⟨⟨y0,y1⟩,x0,x1,x2,x3,x4,x5,x6,eP,eU⟩:=hK.O w6 (h06);go_wp2_with fail;go_step3
  go_wp2_with fail;clear y0 y1 x0 x1 x2 x3 x4 x5 x6 eP eU;refine((iQ (n:=8)).1 (U1 Fence.wide 8 trivial rfl _ _ true _)).mono ?_
  rintro e W2 ⟨rfl,rfl⟩;have hbA:=iV.new w6 25 #[.slice Ab p.bQ.length cb,.slice As p.aP.length cs];have hbB:pU [(w6.heap.size+1,Obj.cells #[.bool true] 4 (0,0))] ((w6.alloc (.cells #[.slice Ab p.bQ.length cb,.slice As p.aP.length cs] 25)).alloc (.cells #[.bool true] 4)):=by
   intro x hx;simp at hx
   subst hx;exact og (by simp)
  have hba:Below w6.heap.size w6 ((w6.alloc (.cells #[.slice Ab p.bQ.length cb,.slice As p.aP.length cs] 25)).alloc (.cells #[.bool true] 4)):=((aj _ _).alloc (au _) _).alloc (by simp) _
  have jah:=hbA.alloc (.cells #[.bool true] 4);have hszA:((w6.alloc (.cells #[.slice Ab p.bQ.length cb,.slice As p.aP.length cs] 25)).alloc (.cells #[.bool true] 4)).heap.size=w6.heap.size+1+1:=by simp
  go_wp2_with fail;clear hbA;generalize (w6.alloc (.cells #[.slice Ab p.bQ.length cb,.slice As p.aP.length cs] 25)).alloc (.cells #[.bool true] 4)=w7 at hbB hba jah hszA ⊢
  have hx7:=ah (hx6.O.below hba);have h07:=h06.trans (hba.mono h06.size);have jtb:w6.heap.size<=w7.heap.size:=hba.size;generalize w6.heap.size=z6 at hbB jah hszA jtb vT ⊢
  clear hba hx6 h06;have YW:=hb0.trans (h07.mono hb0.size);refine(xI (n:=9)).1 ?_
  refine jhi (sb:=8) p true 9 (by omega) z6 (z6+1) aO Ab As cb cs (by omega) (by omega) (by omega) (by omega) rfl (jah.cell (j:=0) rfl) (jah.cell (j:=1) rfl) (Boxed.cell (show Boxed w7 (z6+1) 4 (.bool true)from hbB (z6+1,Obj.cells #[.bool true] 4 (0,0)) (by simp))) ?hA
   (λpre W=>jhT aO bx (λu=>⟨.slice (some ⟨Ic,0,none⟩) s.on.length con,k1,k2,u,k4,k5,k6,k7,k8⟩) [(z6+1,Obj.cells #[.bool true] 4 (0,0))] W0 (Yt p s pre) W)
   (λc pre W=>c=Code.exit 0/\jhT aO bx (λu=>⟨.slice (some ⟨Ic,0,none⟩) s.on.length con,k1,k2,u,k4,k5,k6,k7,k8⟩) [(z6+1,Obj.cells #[.bool true] 4 (0,0))] W0 (Yt p s pre) W/\8<=(Yt p s pre).aF.length)
   (YS _ ?hL ?hW) ?hIx ⟨⟨k3,hx7.O⟩,hbB,h07⟩ ?hsz ?A8 ?hbody ?Hl ?hstop
  case hA=>exact((hBn.O w (aj _ _)).at_).up YW hle
  case hL=>
   intro x hx;simp at hx
   subst hx;show z6+1<w7.heap.size;omega
  case hW=>exact h07.size
  case hIx=>
   intro c pre X Y row hs hg hr;exact⟨hs.1,YS (λpre=>Yt p s pre) (B:=w7.heap.size) (by
    intro x hx;simp at hx
    subst hx;show z6+1<w7.heap.size;omega) h07.size pre X Y row hs.2.1 hg hr,hs.2.2⟩
  case hsz=>
   intro pre W hI;have:=hI.2.1.lt (z6+1,Obj.cells #[.bool true] 4 (0,0)) (by simp)
   simp only at this
   omega
  case A8=>
   intro l x W K hK;simp only[bM,dF,dL]at hK ⊢
   gi_wp2
   exact hK
  case hbody=>
   intro l pre x B W hl hr hI hBo hBw;simp only[bM,dF,dL];obtain⟨b,hb,hfr⟩:=x;obtain⟨⟨u,hx⟩,hH,h0⟩:=hI;obtain⟨⟨y0,y1⟩,x0,x1,x2,x3,x4,x5,x6,eP,eU⟩:=hK.O W (h0);have hcB:=hBo.cell;gi_wp2_with fail
   clear y0 y1 x0 x1 x2 x3 x4 x5 x6 eP eU;obtain⟨rl,hr⟩:=hr;have hz7:z6+2<=w7.heap.size:=by omega
   clear hszA;have hWs:w7.heap.size<=W.heap.size:=aY hl (jh (bJ.1 hr).1)
   gi_loopw [31] (λi wr=>∃(g:Nat) (u:Value),g<=p.aP.length/\i=.int .i64 g/\Bx wr aO bx 31 [] ⟨.slice (some ⟨Ic,0,none⟩) s.on.length con,k1,k2,u,k4,k5,k6,k7,k8⟩ (gdX p b (Yt p s pre) g)/\Ei [(z6+1,Obj.cells #[.bool true] 4 (0,0)),(B,Obj.cells #[.int .i64 b] 3 (0,0))] aO w7.heap.size W wr) (λi _=>p.aP.length - (RowKit.intOf i).toNat)
   case atStart=>
    refine⟨0,u,aK _,rfl,hx,Ei.refl ?_⟩
    intro y hy;simp at hy
    rcases hy with rfl|rfl
    ·exact hH _ (by simp)
    ·exact hBo
   case round=>
    have hFb:=ah (jdc hc'.O pre);have hHo:=hH;clear hx hH hBo u hcB;have hbn:aO<=W.heap.size:=by omega
    obtain⟨g,u,hg,rfl,hx,hS⟩:=hrel;have hx':=ah hx;clear hx;have h0r:=h0.trans (hS.b.mono hle0);have hB0:=hb0.trans (h0r.mono hb0.size);have hcB:wr.cell? ⟨B,0,none⟩=some (.int .i64 b):=Boxed.cell (show Boxed wr B 3 (.int .i64 b)from hS.held (B,Obj.cells #[.int .i64 b] 3 (0,0)) (by simp))
    obtain⟨⟨y0,y1⟩,x0,x1,x2,x3,x4,x5,x6,eP,eU⟩:=hK.O wr (h0r);by_cases hg1:g<p.aP.length
    ·have hgi:(g:Int)<(p.aP.length:Int):=by omega
     obtain⟨os,ls,rs⟩:=(hSz.O wr hB0).at_.int hg1;have hFl:=ah (WO hFb.O hb hfr g hg);have hTs:=ah hFl.O.right.sane;have hon:=ah hFl.O.on;have hnx:=ah (WM (p:=p) b (Yt p s pre) g);obtain⟨T,hT⟩:∃T,gdX p b (Yt p s pre) g=T:=⟨_,rfl⟩;have hT':=ah hT;rw[hT]at hx' hFl hTs hon hnx
     clear hT;obtain⟨c0,c1,c2,c3,c4,c5,c6⟩:=hx'.O.cells;simp only at c0 c1 c2 c3 c4 c5 c6
     have lbx:=hx'.O.lt;have lB:=hS.held.lt _ (bP _ (dS ..));simp only at lB
     gi_wp2_with fail
     have ha:Below wr.heap.size wr ((wr.alloc (.cells #[.int .i64 g] 3)).alloc (.cells #[.int .i64 (bI p.aP g)] 3)):=((aj _ _).alloc (au _) _).alloc (by simp) _
     refine⟨trivial,CallsIn.inRound l (iQ.2 ((jfn _ _ _ p T b g (hP'.O _ (hB0.trans (ha.mono hB0.size))) ((hx'.O.own.view hTs.O).up ha ha.size) hTs.O hb hg1).mono ?_))⟩
     rintro e W3 ⟨rfl,h3⟩;clear y0 y1 x0 x1 x2 x3 x4 x5 x6 eP eU;clear c0 c1 c2 c3 c4 c5 c6 os ls rs hcB;have hH2:pU [(z6+1,Obj.cells #[.bool true] 4 (0,0)),(B,Obj.cells #[.int .i64 b] 3 (0,0)),(wr.heap.size,Obj.cells #[.int .i64 g] 3 (0,0)),(wr.heap.size+1,Obj.cells #[.int .i64 (bI p.aP g)] 3 (0,0))] ((wr.alloc (.cells #[.int .i64 g] 3)).alloc (.cells #[.int .i64 (bI p.aP g)] 3)):=by
      have hHa:=(hS.held.alloc (.cells #[.int .i64 g] 3)).alloc (.cells #[.int .i64 (bI p.aP g)] 3);intro y hy;simp at hy
      rcases hy with rfl|rfl|rfl|rfl
      ·exact hHa _ (by simp)
      ·exact hHa _ (by simp)
      ·exact(qY (by simp)).trans (og rfl)
      ·exact og (by simp)
     have jok:=ha.trans (h3.mono ha.size);have hx3:=ah (hx'.O.below jok);have hS2:=hS.below hbn jok;have hS3:Ei [(z6+1,Obj.cells #[.bool true] 4 (0,0)),(B,Obj.cells #[.int .i64 b] 3 (0,0)),(wr.heap.size,Obj.cells #[.int .i64 g] 3 (0,0)),(wr.heap.size+1,Obj.cells #[.int .i64 (bI p.aP g)] 3 (0,0))] aO w7.heap.size W W3:=⟨hH2.below h3,hS2.b,hS2.k⟩;have h03:=h0.trans (hS3.b.mono hle0);have hw3:wr.heap.size+2<=W3.heap.size:=by have:=h3.size;simp at this;omega
     clear ha h3 hH2 hS hS2 jok hx' h0r hB0;generalize wr.heap.size=z9 at hS3 hw3 lbx lB ⊢
     by_cases hlk:cell T.on b g+iq T b g<(p.bin b).low
     ·rw[iG hlk];have hsX:=ah (jkc hlk);have hB3:=hb0.trans (h03.mono hb0.size);obtain⟨⟨y0,y1⟩,x0,x1,x2,x3,x4,x5,x6,eP,eU⟩:=hK.O W3 (h03);gi_wp2_with fail
      clear y0 y1 x0 x1 x2 x3 x4 x5 x6 eP eU;refine⟨trivial,CallsIn.inRound l (iQ.2 ((iQ (n:=8)).1 (U1 Fence.wide 8 trivial rfl _ _ false _)|>.mono ?_))⟩
      rintro e W2 ⟨rfl,rfl⟩;have hbA:=iV.new W3 25 #[.slice Ab p.bQ.length cb,.slice As p.aP.length cs];have hba:Below W3.heap.size W3 ((W3.alloc (.cells #[.slice Ab p.bQ.length cb,.slice As p.aP.length cs] 25)).alloc (.cells #[.bool false] 4)):=((aj _ _).alloc (au _) _).alloc (by simp) _
      have hH4:pU [(z6+1,Obj.cells #[.bool true] 4 (0,0)),(B,Obj.cells #[.int .i64 b] 3 (0,0)),(z9,Obj.cells #[.int .i64 g] 3 (0,0)),(z9+1,Obj.cells #[.int .i64 (bI p.aP g)] 3 (0,0)),(W3.heap.size+1,Obj.cells #[.bool false] 4 (0,0))] ((W3.alloc (.cells #[.slice Ab p.bQ.length cb,.slice As p.aP.length cs] 25)).alloc (.cells #[.bool false] 4)):=by
       have hHa:=(hS3.held.alloc (.cells #[.slice Ab p.bQ.length cb,.slice As p.aP.length cs] 25)).alloc (.cells #[.bool false] 4);intro y hy;simp at hy
       rcases hy with rfl|rfl|rfl|rfl|rfl
       ·exact hHa _ (by simp)
       ·exact hHa _ (by simp)
       ·exact hHa _ (by simp)
       ·exact hHa _ (by simp)
       ·exact og (by simp)
      have jah:=hbA.alloc (.cells #[.bool false] 4);have jqM:((W3.alloc (.cells #[.slice Ab p.bQ.length cb,.slice As p.aP.length cs] 25)).alloc (.cells #[.bool false] 4)).heap.size>=W3.heap.size+1+1:=by simp
      gi_wp2_with fail
      have hx4:=ah (hx3.O.below hba);have h04:=h03.trans (hba.mono h03.size);have hS4:=(hS3.below hbn hba).b;have ji7:=(hS3.below hbn hba).k;have hsz3:z9+2<=W3.heap.size:=hw3;clear hbA hS3 hx3 h03 hw3;generalize (W3.alloc (.cells #[.slice Ab p.bQ.length cb,.slice As p.aP.length cs] 25)).alloc (.cells #[.bool false] 4)=w4 at hH4 jah jqM hx4 h04 hS4 ji7 hba ⊢
      clear hba;generalize W3.heap.size=z3 at hH4 jah jqM hsz3 ⊢
      have hB4:=hb0.trans (h04.mono hb0.size);obtain⟨LL,hLL⟩:∃LL:List (Nat×Obj),LL=[(z6+1,Obj.cells #[.bool true] 4 (0,0)),(B,Obj.cells #[.int .i64 b] 3 (0,0)),(z9,Obj.cells #[.int .i64 g] 3 (0,0)),(z9+1,Obj.cells #[.int .i64 (bI p.aP g)] 3 (0,0)),(z3+1,Obj.cells #[.bool false] 4 (0,0))]:=⟨_,rfl⟩;rw[<- hLL]at hH4
      have Og:=ah hLL;clear hLL;have jtj:=ji7.same l _ hl hr rfl;have jrD:W.heap.size<=w4.heap.size:=ji7.size;have jgk:∀x∈LL,x.1<w4.heap.size:=hH4.lt;refine jdl (q:=48) (sb:=13) p false 7 l (by omega) jtj z3 (z3+1) aO Ab As cb cs (by omega) (by omega) (by omega) (by omega) rfl (jah.cell (j:=0) rfl) (jah.cell (j:=1) rfl) (Boxed.cell (show Boxed w4 (z3+1) 4 (.bool false)from hH4 (z3+1,Obj.cells #[.bool false] 4 (0,0)) (by rw[Og.O];simp))) ?jA
       (λpre' W'=>jhS aO bx (λu=>(⟨.slice (some ⟨Ic,0,none⟩) s.on.length con,k1,k2,u,k4,k5,k6,k7,k8⟩:SV)) LL w7.heap.size W (XH p b g T pre') W')
       (λc pre' W'=>c=Code.exit 0/\jhS aO bx (λu=>(⟨.slice (some ⟨Ic,0,none⟩) s.on.length con,k1,k2,u,k4,k5,k6,k7,k8⟩:SV)) LL w7.heap.size W (XH p b g T pre') W'/\8<=(XH p b g T pre').aF.length)
       (YR _ jgk hbn jrD) ?jIx ⟨⟨u,hx4.O⟩,hH4,hS4,ji7⟩ ?jkG ?jqz ?jqy ?jqx
      case jA=>exact((hBn.O w (aj _ _)).at_).up hB4 hle
      case jIx=>
       intro c pre' X Y row hs hg hr;exact⟨hs.1,YR (λpre'=>XH p b g T pre') (B:=w4.heap.size) jgk hbn jrD pre' X Y row hs.2.1 hg hr,hs.2.2⟩
      case jkG=>
       intro l x W K hK;simp only[bM,dF,dL]at hK ⊢
       gi_wp2
       exact hK
      case jqz=>
       intro l2 pre' x W' hI;simp only[bM,dF,dL];clear hx4 hS4 ji7 hB4 h04;obtain⟨f,hf,Xu⟩:=x;obtain⟨⟨u2,hx⟩,hS⟩:=hI;have hnx2:=ah (jg3 b g T pre' ⟨f,hf,Xu⟩);have jek:=ah (jde hFl.O hb hfr hg1 pre');have JB:=ah jek.O.right.sane;have jkP:=ah jek.O.on;have hx':=ah hx;clear hx;obtain⟨U,hU⟩:∃U,XH p b g T pre'=U:=⟨_,rfl⟩;rw[hU]at hx' jek JB jkP hnx2
       have hU':=ah hU;clear hU;obtain⟨Am,cm,hum⟩:=hx'.O.own.aF.isSlice;obtain rfl:u2=.slice Am U.aF.length cm:=hum;obtain⟨c0,c1,c2,c3,c4,c5,c6⟩:=hx'.O.cells;simp only at c0 c1 c2 c3 c4 c5 c6
       have hm8:=JB.O.vJ;have h0r:=h0.trans (hS.b.mono hle0);have hB0:=hb0.trans (h0r.mono hb0.size);have g1:W'.cell? ⟨B,0,none⟩=some (.int .i64 b):=Boxed.cell (show Boxed W' B 3 (.int .i64 b)from hS.held (B,Obj.cells #[.int .i64 b] 3 (0,0)) (by rw[Og.O];simp))
       have g2:W'.cell? ⟨z9,0,none⟩=some (.int .i64 g):=Boxed.cell (show Boxed W' z9 3 (.int .i64 g)from hS.held (z9,Obj.cells #[.int .i64 g] 3 (0,0)) (by rw[Og.O];simp))
       obtain⟨⟨y0,y1⟩,x0,x1,x2,x3,x4,x5,x6,eP,eU⟩:=hK.O W' (h0r);by_cases h8:U.aF.length=8
       ·have h8i:((U.aF.length:Int)==8)=true:=by simp[h8]
        have he:=ah (show XH p b g T (pre'++[⟨f,hf,Xu⟩])=U by rw[hnx2.O];exact QL (by omega))
        gi_wp2_with fail
        exact⟨KeepsFrom.refl _ _,rfl,⟨⟨_,by rw[he.O];exact hx'.O⟩,hS⟩,by rw[he.O];omega⟩
       ·have h8i:((U.aF.length:Int)==8)=false:=xQ.2 (by omega)
        gi_wp2_with fail
        refine⟨trivial,CallsIn.inRound l2 (iQ.2 ((jfn _ _ _ p U b g (hP'.O _ hB0) (hx'.O.own.view JB.O) JB.O hb hg1).mono ?_))⟩
        rintro e W5 ⟨rfl,h5⟩;clear y0 y1 x0 x1 x2 x3 x4 x5 x6 eP eU;clear c0 c1 c2 c3 c4 c5 c6 g1 g2;have hWn:aO<=W'.heap.size:=aY hbn hS.k.size;have hT0:Ei LL aO w7.heap.size W' W':=Ei.refl hS.held;have hT5:=hT0.below hWn h5;have h05:=h0r.trans (h5.mono h0r.size);have hx5:=ah (hx'.O.below h5);clear h5 hT0 hx' hB0;have P6:=hb0.trans (h05.mono hb0.size);obtain⟨c0,c1,c2,c3,c4,c5,c6⟩:=hx5.O.cells;simp only at c0 c1 c2 c3 c4 c5 c6
        have g1:W5.cell? ⟨B,0,none⟩=some (.int .i64 b):=Boxed.cell (show Boxed W5 B 3 (.int .i64 b)from hT5.held (B,Obj.cells #[.int .i64 b] 3 (0,0)) (by rw[Og.O];simp))
        have g2:W5.cell? ⟨z9,0,none⟩=some (.int .i64 g):=Boxed.cell (show Boxed W5 z9 3 (.int .i64 g)from hT5.held (z9,Obj.cells #[.int .i64 g] 3 (0,0)) (by rw[Og.O];simp))
        have g3:W5.cell? ⟨z9+1,0,none⟩=some (.int .i64 (bI p.aP g)):=Boxed.cell (show Boxed W5 (z9+1) 3 (.int .i64 (bI p.aP g))from hT5.held (z9+1,Obj.cells #[.int .i64 (bI p.aP g)] 3 (0,0)) (by rw[Og.O];simp))
        have jqq:=hx5.O.lt;have lB5:B<W5.heap.size:=hT5.held.lt (B,Obj.cells #[.int .i64 b] 3 (0,0)) (by rw[Og.O];simp)
        have l95:z9<W5.heap.size:=hT5.held.lt (z9,Obj.cells #[.int .i64 g] 3 (0,0)) (by rw[Og.O];simp)
        have jqt:z9+1<W5.heap.size:=hT5.held.lt (z9+1,Obj.cells #[.int .i64 (bI p.aP g)] 3 (0,0)) (by rw[Og.O];simp)
        obtain⟨⟨y0,y1⟩,x0,x1,x2,x3,x4,x5,x6,eP,eU⟩:=hK.O W5 (h05);have q1:=λo d os=>bY (w:=W5) (b:=bx) jqq o d os
        have q2:=λo d os=>bY (w:=W5) (b:=B) lB5 o d os
        have q3:=λo d os=>bY (w:=W5) (b:=z9) l95 o d os
        have q4:=λo d os=>bY (w:=W5) (b:=z9+1) jqt o d os
        have q5:=λo d os=>bY (w:=W5) (b:=w.heap.size) eU o d os
        have hV2:=ah (λd os=>(hx5.O.own.view JB.O).up (kW W5 d os) (kW W5 d os).size)
        have hP2:=ah (λd os=>hP'.O _ (P6.trans ((kW W5 d os).mono P6.size)))
        have v1:=JB.O.cell hb hg1;have v2:=xC JB.O b g;have v3:0<=(p.bin b).high/\(p.bin b).high<=200:=(IE hsn.O.plan hb).2.2;have v4:=zH hsn.O.plan hg1;have hz:(bI p.aP g==0)=false:=xQ.2 (by omega)
        have hbb:0<=(b:Int)/\(b:Int)<p.bQ.length:=by omega
        have hgg:0<=(g:Int)/\(g:Int)<p.aP.length:=by omega
        have jnM:0<=(f:Int)/\(f:Int)<p.bQ.length:=by omega
        gi_wp2_with fail
        refine uI (by kernel_rfl) (by kernel_rfl) (by kernel_rfl) ?_
        repeat(go_big_quiet_step (first|(go_at_call 80;refine gI (jlL _ _ p U f g (hV2.O _ _) JB.O jnM hgg))|(go_at_call 93;refine gI (jhc _ _ _ p U b (hP2.O _ _) (hV2.O _ _) JB.O hbb))))
        refine wpQuiet_nil ?_
        intro W6 hw6;have hb6:=dD hw6;clear hw6;have jma:(p.bin b).high - (cell U.on b g+iq U b g)=(p.bin b).high - cell U.on b g - iq U b g:=by omega
        rw[Y1 JB.O hb,jma,jcp];clear jma;have hT6:=hT5.below hWn hb6;have h06:=h05.trans (hb6.mono h05.size);have hx6:=ah (hx5.O.below hb6);clear y0 y1 x0 x1 x2 x3 x4 x5 x6 eP eU;clear q1 q2 q3 q4 q5 hV2 hP2 c0 c1 c2 c3 c4 c5 c6 g1 g2 g3 hz hb6 hx5 hT5 h05 P6 jqq lB5 l95 jqt;have hKp:∀W9,Ei LL aO w7.heap.size W' W9->KeepsFrom w4.heap.size W' W9/\KpB aO (z3+1) W' W9:=λW9 h9=>
         ⟨KeepsFrom.weak h9.k (by omega),h9.b,(Boxed.cell (show Boxed W9 (z3+1) 4 (.bool false)from h9.held (z3+1,Obj.cells #[.bool false] 4 (0,0)) (by rw[Og.O];simp))).trans (Boxed.cell (show Boxed W' (z3+1) 4 (.bool false)from hS.held (z3+1,Obj.cells #[.bool false] 4 (0,0)) (by rw[Og.O];simp))).symm⟩
        have jrZ:=ah hKp;clear hKp;by_cases wK:0<Hr p U b g f
        ·have hsm:=ah (show XH p b g T (pre'++[⟨f,hf,Xu⟩])=zC U ⟨g,f,b,Hr p U b g f⟩by rw[hnx2.O];exact WV (by omega) wK)
         obtain⟨N,hN⟩:∃N,Hr p U b g f=N:=⟨_,rfl⟩;rw[hN]at hsm wK
         rw[hN];clear hN;have hmo:=ah hx6.O.own.aF;have c3:W6.cell? ⟨bx,3,none⟩=some (.slice Am U.aF.length cm):=hx6.O.cells.2.2.2.1;have g1:W6.cell? ⟨B,0,none⟩=some (.int .i64 b):=Boxed.cell (show Boxed W6 B 3 (.int .i64 b)from hT6.held (B,Obj.cells #[.int .i64 b] 3 (0,0)) (by rw[Og.O];simp))
         have g2:W6.cell? ⟨z9,0,none⟩=some (.int .i64 g):=Boxed.cell (show Boxed W6 z9 3 (.int .i64 g)from hT6.held (z9,Obj.cells #[.int .i64 g] 3 (0,0)) (by rw[Og.O];simp))
         have lbx6:=hx6.O.lt;have jtX:aO<=W6.heap.size:=by omega
         gi_wp2_with (refine XA _ rfl (.tmp 76) (.tmp 82) 29 48 rfl aO _ 4 32 underlying29 KO rfl (by decide) (by decide) _ U.aF ⟨g,f,b,N⟩ rfl (hmo.O.alloc _) ⟨W6.heap.size,0,none⟩ 1 rfl rfl (uF _ _ _) (O4 _) (by omega) (by simp;omega) ?_;refine aW ?_)
         unfold Hid;intro v' w9 E8 je Hq;obtain⟨A9,c9,Np⟩:=E8.isSlice;rw[aZ,pX]at Np
         subst Np;have hal:Below W6.heap.size W6 (W6.alloc (.cells #[.int .i64 g,.int .i64 f,.int .i64 b,.int .i64 N] 48)):=(aj _ W6).alloc (au _) _;have hxa:=hx6.O.below hal;have hTa:=hT6.below hWn hal;have wC:=hxa.own.IQ je E8;have Jk:some bx≠(Value.slice Am U.aF.length cm).ownBlock:=λhe=>by
          rcases hxa.own.aF.mQ hxa.uK.blk (by decide)with h|h
          ·simp only at h;rw[h]at he;cases he
          ·exact h he.symm
         have hT9:=hTa.grown hWn je (λr e=>⟨(nK hxa.own.aF r e).1,hxa.jhg e.symm,λx hx he=>pU.not_row hTa.held (by
          intro x hx cs sp e2;rw[Og.O]at hx
          simp at hx
          rcases hx with rfl|rfl|rfl|rfl|rfl<;>simp at e2) hxa.own.aF x hx (by rw[he];exact e.symm)⟩)
         have jai:=ah (hxa.uK.grown je Jk);have X5:=ah wC;have hLb:∀x∈LL,x.1≠bx:=by
          intro x hx;rw[Og.O]at hx
          simp at hx
          rcases hx with rfl|rfl|rfl|rfl|rfl<;>simp only<;>omega
         clear c3 hxa wC Jk je E8 hmo hx6 Hq hTa hal g1 g2;gi_wp2_with (refine XB rfl (.tmp 84) (.tmp 83) rfl rfl A9 (U.aF.length+1) c9 (V:=⟨.slice (some ⟨Ic,0,none⟩) s.on.length con,k1,k2,.slice Am U.aF.length cm,k4,k5,k6,k7,k8⟩) (V':=⟨.slice (some ⟨Ic,0,none⟩) s.on.length con,k1,k2,.slice A9 (U.aF.length+1) c9,k4,k5,k6,k7,k8⟩) (s':={U with aF:=U.aF++[⟨g,f,b,N⟩]}) (cs:=[]) (b:=bx) (by rw[iJ];exact jai.O.blk) X5.O Xp rfl rfl rfl (λw10 Dz xu=>?_);refine aW ?_)
         unfold Hid;have jrK:=hT9.step hWn xu (by omega) ⟨_,_,_,jai.O.blk⟩ hLb
         have sK:=ah (show Bx w10 aO bx 31 [] ⟨.slice (some ⟨Ic,0,none⟩) s.on.length con,k1,k2,.slice A9 (U.aF.length+1) c9,k4,k5,k6,k7,k8⟩ (XH p b g T (pre'++[⟨f,hf,Xu⟩]))by rw[hsm.O];exact Dz)
         clear Dz xu jai X5 hT9;gi_wp2_with fail
         have:=jrZ.O _ jrK;exact⟨this.1,this.2,⟨_,sK.O⟩,hS.trans jrK⟩
        ·have he:=ah (show XH p b g T (pre'++[⟨f,hf,Xu⟩])=U by rw[hnx2.O];exact WW (by omega) wK)
         gi_wp2_with fail
         have:=jrZ.O _ hT6;exact⟨this.1,this.2,⟨_,by rw[he.O];exact hx6.O⟩,hS.trans hT6⟩
      case jqy=>
       intro W' hI;obtain⟨⟨u,hx⟩,hS⟩:=hI;have hx5:=ah (show Bx W' aO bx 31 [] ⟨.slice (some ⟨Ic,0,none⟩) s.on.length con,k1,k2,u,k4,k5,k6,k7,k8⟩ (gdX p b (Yt p s pre) (g+1))by rw[hnx.O,hsX.O];exact hx)
       clear hx;gi_wp2_with fail
       go_roundw
       case rel=>exact⟨g+1,u,by omega,by go_num,hx5.O,⟨λy hy=>hS.held y (by rw[Og.O];simp at hy ⊢;rcases hy with h|h<;>simp[h]),hS.b,hS.k⟩⟩
       case measure=>simp[RowKit.intOf];omega
      case jqx=>
       intro c k W' hk hI;obtain⟨rfl,⟨⟨u,hx⟩,hS⟩,h8⟩:=hI;have hfull:=jg4 hk h8;have he1:gdX p b (Yt p s pre) (g+1)=XH p b g T (qB p false k):=by rw[hnx.O,hsX.O,hfull]
       have he2:Yt p s (pre++[⟨b,hb,hfr⟩])=XH p b g T (qB p false k):=by
        rw[ja0,<- he1];exact jci (by rw[he1];exact h8) p.aP.length (by omega)
       rw[<- he2]at hx h8
       clear hfull he1 he2;refine wpIn_exit ?_
       gi_wp2_with fail
       exact⟨hS.k,rfl,⟨⟨u,hx⟩,(λy hy=>hS.held y (by rw[Og.O];simp at hy ⊢;simp[hy])),h0.trans (hS.b.mono hle0)⟩,h8⟩
     ·rw[fA hlk];have hx4:=ah (show Bx W3 aO bx 31 [] ⟨.slice (some ⟨Ic,0,none⟩) s.on.length con,k1,k2,u,k4,k5,k6,k7,k8⟩ (gdX p b (Yt p s pre) (g+1))by rw[hnx.O];unfold sW;rw[ay hlk];exact hx3.O)
      clear hx3 hlk;gi_wp2_with fail
      go_roundw
      case rel=>exact⟨g+1,u,by omega,by go_num,hx4.O,⟨λy hy=>hS3.held y (by simp at hy ⊢;rcases hy with h|h<;>simp[h]),hS3.b,hS3.k⟩⟩
      case measure=>simp[RowKit.intOf];omega
    ·obtain rfl:g=p.aP.length:=by omega
     gi_wp2_with fail
     refine⟨hS.k,⟨hS.b,?_⟩,⟨?_,?_,h0r⟩⟩
     ·exact(Boxed.cell (show Boxed wr (z6+1) 4 (.bool true)from hS.held _ (dS ..))).trans (Boxed.cell (show Boxed W (z6+1) 4 (.bool true)from hHo _ (dS ..))).symm
     ·exact⟨u,by rw[ja0];exact hx'.O⟩
     ·intro y hy;exact hS.held y (by simp at hy ⊢;simp[hy])
  case Hl=>
   intro D W hD hI hWd;rw[jeO]at hI
   obtain⟨⟨u,hx⟩,_,h0⟩:=hI;have hx':=ah hx;have LD:=hb0.trans (h0.mono hb0.size);have fH:=hR.O _ h0;have lG:=hx.own.one;obtain⟨q0,q1,q2,q3,q4,q5,q6⟩:=hx.cells;simp only at q0 q1 q2 q3 q4 q5 q6
   clear hx;go_wp2_with (refine dB (.tmp 4) (.tmp 86) dH (⟨.slice (some ⟨Ic,0,none⟩) s.on.length con,k1,k2,u,k4,k5,k6,k7,k8⟩:SV) rfl fH rfl lG (λw9 dM je=>?_))
   have wC:=hx'.O.own.keptBy je fH (by decide) (by decide) (by decide) (by decide) (by decide) (by decide)
   obtain⟨p0,p1,p2,p3,p4,p5,p6⟩:=jk.cells dM;have dN:=Below.gB LD je;have jte:=hsE.O;have jth:=h07.size;have hD9:w9.heap[D]?=some (.deferred (some [])):=(je.block D (bJ.1 hWd).1 (by intro he;injection he with he;omega)).trans hWd
   clear q0 q1 q2 q3 q4 q5 q6;go_wp2_with fail;have hgD:=grownBy_putObj' w9 D (.deferred none);have jec:=jk.grown dM hgD (by intro he;injection he with he;omega)
   have jjd:=wC.wB hgD (λr e=>by cases e;exact⟨_,hD9,rfl⟩)
   have jd4:Below w.heap.size w (w9.putObj D (.deferred none)):=qR dN hgD (jc dN) (λk hk=>by injection hk with hk;omega)
   clear p0 p1 p2 p3 p4 p5 p6;obtain⟨p0,p1,p2,p3,p4,p5,p6⟩:=jk.cells jec;refine⟨by simp,.inl ⟨_,_,rfl,run_takeDeferred hD9,?_⟩⟩
   exact⟨.tuple #[SV.val (⟨.slice (some ⟨Ic,0,none⟩) s.on.length con,k1,k2,u,k4,k5,k6,k7,k8⟩:SV),.int .i64 0],by simp[results,results49,go_sem,SV.val,p0,p1,p2,p3,p4,p5,p6],EZ bK.O (jjd.from_ hle) jd4⟩
  case hstop=>
   intro D c k W hD hk hI hWd;obtain⟨rfl,hI,h8⟩:=hI;rw[<- jgX hk h8]at hI
   obtain⟨⟨u,hx⟩,_,h0⟩:=hI;refine wpIn_exit ?_
   have hx':=ah hx;have LD:=hb0.trans (h0.mono hb0.size);have fH:=hR.O _ h0;have lG:=hx.own.one;obtain⟨q0,q1,q2,q3,q4,q5,q6⟩:=hx.cells;simp only at q0 q1 q2 q3 q4 q5 q6
   clear hx;go_wp2_with (refine dB (.tmp 4) (.tmp 86) dH (⟨.slice (some ⟨Ic,0,none⟩) s.on.length con,k1,k2,u,k4,k5,k6,k7,k8⟩:SV) rfl fH rfl lG (λw9 dM je=>?_))
   have wC:=hx'.O.own.keptBy je fH (by decide) (by decide) (by decide) (by decide) (by decide) (by decide)
   obtain⟨p0,p1,p2,p3,p4,p5,p6⟩:=jk.cells dM;have dN:=Below.gB LD je;have jte:=hsE.O;have jth:=h07.size;have hD9:w9.heap[D]?=some (.deferred (some [])):=(je.block D (bJ.1 hWd).1 (by intro he;injection he with he;omega)).trans hWd
   clear q0 q1 q2 q3 q4 q5 q6;go_wp2_with fail;have hgD:=grownBy_putObj' w9 D (.deferred none);have jec:=jk.grown dM hgD (by intro he;injection he with he;omega)
   have jjd:=wC.wB hgD (λr e=>by cases e;exact⟨_,hD9,rfl⟩)
   have jd4:Below w.heap.size w (w9.putObj D (.deferred none)):=qR dN hgD (jc dN) (λk hk=>by injection hk with hk;omega)
   clear p0 p1 p2 p3 p4 p5 p6;obtain⟨p0,p1,p2,p3,p4,p5,p6⟩:=jk.cells jec;refine⟨by simp,.inl ⟨_,_,rfl,run_takeDeferred hD9,?_⟩⟩
   exact⟨.tuple #[SV.val (⟨.slice (some ⟨Ic,0,none⟩) s.on.length con,k1,k2,u,k4,k5,k6,k7,k8⟩:SV),.int .i64 0],by simp[results,results49,go_sem,SV.val,p0,p1,p2,p3,p4,p5,p6],EZ bK.O (jjd.from_ hle) jd4⟩
 ·have hne:(aQ p s !=0)=true:=by simpa using hc
  have bK:=ah (jco hc);clear hc;have fH:=hR.O _ h1;go_wp2_with (refine dB (.tmp 4) (.tmp 21) dH dH rfl fH rfl rfl (λw9 dM je=>?_))
  obtain⟨p0,p1,p2,p3,p4,p5,p6⟩:=jk.cells dM;have dN:=Below.gB hB1 je;go_wp2_with fail;rw[Exit.noGoto_ret];refine⟨.tuple #[dH.val,.int .i64 (aQ p s)],by simp[results,results49,go_sem,SV.val,p0,p1,p2,p3,p4,p5,p6],jQ bK.O dN⟩
end Wh
namespace Wh
open Go Go.RowKit Go.Shelf Go.Proofs Tryz
attribute [local go_sem] aT
theorem Bx.jkd{w:World}{aO b:Nat}{t:TypeId}{rest:List Value}{V:SV}{s:aJ}(h:Bx w aO b t rest V s)(j:Nat)(u:Value):
  Bx (w.setCell ⟨b,7+j,none⟩ u) aO b t (rest.set j u) V s/\w.grownBy (w.setCell ⟨b,7+j,none⟩ u) (some b):=by
 obtain⟨h1,h2⟩:=xA h.box (7+j) u;have e:(V.cells++rest).set (7+j) u=V.cells++rest.set j u:=by
  rw[mG _ _ (by simp[SV.cells])]
  simp[SV.cells]
 rw[e]at h1
 exact⟨⟨h1,h.own.keptBy h2 h.box h.ty.h1 h.ty.h2 h.ty.h3 h.ty.h4 h.ty.h5 h.ty.h6,h.ty⟩,h2⟩
theorem jfw:jcQ 95:=⟨by decide,by decide,by decide,by decide,by decide,by decide⟩
abbrev FH(bin dh over:Int)(m:Value):List Value:=[.int .i64 bin,.int .i64 dh,.int .i64 over,m]
theorem jjC(w:World)(n:Int){aO b:Nat}{V:SV}{s:aJ}{bin dh over:Int}{m:Value}(hB:Bx w aO b 95 (FH bin dh over m) V s)(hn:0<=n/\n<=200)(ho: -1000000<=over/\over<=1000000):
  Calls prog 115 #[.pointer (some ⟨b,0,none⟩),.int .i64 n] w λe w'=>e=.returned (.int .i64 (gX.less over n))/\Bx w' aO b 95 (FH bin dh (over - gX.less over n) m) V s/\Step (·=b) w w':=by
 have hB':=ah hB;have r1:=hB.box.cell (j:=9) rfl;have f1:=hB.box.frozen 9;have hw:IntKind.i64.wrap (over - n)=over - n:=aN _ (by omega)
 have hw2:IntKind.i64.wrap over=over:=aN _ (by omega)
 have fin:∀q r:Int,q=gX.less over n->r=over - gX.less over n->Ending.returned (.int .i64 q)=.returned (.int .i64 (gX.less over n))/\Bx (w.setCell ⟨b,9,none⟩ (.int .i64 r)) aO b 95 (FH bin dh (over - gX.less over n) m) V s/\Step (·=b) w (w.setCell ⟨b,9,none⟩ (.int .i64 r)):=by
  rintro q r rfl rfl;obtain⟨h1,h2⟩:=hB'.O.jkd 2 (.int .i64 (over - gX.less over n));exact⟨rfl,h1,.jR h2 λk hk=>by injection hk with hk;exact hk.symm⟩
 clear hB;have fin':=ah fin;clear fin;go_enter func115,ntmps115
 go_wp2_with fail;all_goals
  go_ret
  exact fin'.O _ _ (by unfold gX.less;omega) (by unfold gX.less;omega)
end Wh
namespace Wh
open Go Go.RowKit
theorem IY{α:Type}{F:Fence}{n:Nat}{P:Program}{g:Operand}{ps:Array Tmp}{assign body:Code}{Q:Exit->Act->World->Prop}{a:Act}{w:World}
  (hro:F.round=none) (h1:1<=n) {gf:Nat} {lb:Array Value} (hg:a.eval g=.func (.func gf) #[] lb) (hFg:F.fn gf) (eg:∀args w,(callFunc gf args).run P w=.ok (.enter gf args) w)
  {encs:α->Array Value} (hps:∀x,(encs x).size=ps.size)
  (I:List α->World->Prop) (hI:OwnFrom w.heap.size I) (h0:I [] w) (Nx:List α->α->Prop) (S:List α->Prop)
  (hseq:∀(l:Nat) (J:List α->World->Prop) (W:World),Below w.heap.size w W->(∀pre V,J pre V->I pre V)->AbidesFrom W.heap.size J->
   (∀pre x V,J pre V->Nx pre x->YieldAt F (n - 1 - 1) P l (encs x) V λe V'=>e=.returned (.bool true)/\J (pre++[x]) V')->J [] W->
   CallsIn F (n - 1) P gf (#[.func (.yield l) #[] #[]]++lb) W λe V=>(∃v,e=.returned v)/\∃xs,S xs/\J xs V)
  (Ax:α->Act->World->Prop) (hAx:∀x a',OwnFrom w.heap.size (λ(_:Unit) W=>Ax x a' W))
  (A8:∀(l:Nat) (pre:List α) (x:α) (W:World) (K:Act->World->Prop),I pre W->(∀a' W',KeepsFrom w.heap.size W W'->I pre W'->Ax x a' W'->K a' W')->
   assign.wpIn (F.inRound l) (n - 1 - 1) P (Exit.then K (λ_ _ _=>False)) {tmps:=(ps.zip (encs x)).foldl (λt (p,v)=>t.setIfInBounds p v) a.tmps,defers:=[]} W)
  (hbody:∀(l:Nat) (pre:List α) (x:α) (a':Act) (W:World),w.heap.size<=l->I pre W->Nx pre x->Ax x a' W->
   body.wpIn (F.inRound l) (n - 1 - 1) P (Exit.then (λ_ W'=>KeepsFrom w.heap.size W W'/\I (pre++[x]) W') (λ_ _ _=>False)) a' W)
  (Hl:∀(D:Nat) (xs:List α) (W:World),w.heap.size<=D->S xs->I xs W->W.heap[D]?=some (.deferred (some []))->Q .normal {a with defers:={target:=.collected D,args:=#[]}::a.defers} W):
  (Code.rangeFunc g ps assign body).wpIn F n P Q a w:=by
 refine wpIn_rangeFunc λfn hfn=>?_
 rw[hro];obtain⟨rec,hrec⟩:∃rec:LoopState->Loop,rec=λst=>{state:=st,pending:=none,fn,tmps:=a.tmps,params:=ps,assign,body,defers:=w.heap.size}:=⟨_,rfl⟩
 have hba:Below w.heap.size w ((w.alloc (.deferred (some []))).alloc (.loop (rec .ready))):=((aj _ w).alloc (au _) _).alloc (by simp) _
 have hL:((w.alloc (.deferred (some []))).alloc (.loop (rec .ready))).heap[w.heap.size+1]?=some (.loop (rec .ready)):=by
  have:=World.alloc_heap_new (w.alloc (.deferred (some []))) (.loop (rec .ready));rwa [cO]at this
 have hD:((w.alloc (.deferred (some []))).alloc (.loop (rec .ready))).heap[w.heap.size]?=some (.deferred (some [])):=(wV _ _ _ (by simp)).trans (World.alloc_heap_new w _)
 have hi0:I [] ((w.alloc (.deferred (some []))).alloc (.loop (rec .ready))):=hI.alloc _ (hI.alloc _ h0);have hent:=run_enterLoop_outer (P:=P) (w:=w) fn a.tmps ps assign body;have hsz:((w.alloc (.deferred (some []))).alloc (.loop (rec .ready))).heap.size=w.heap.size+2:=by simp
 have jmf:(Instr.enterLoop fn a.tmps ps assign body none).run P w=.ok (w.heap.size+1,[{target:=.collected w.heap.size,args:=#[]}]) ((w.alloc (.deferred (some []))).alloc (.loop (rec .ready))):=by
  rw[hent,hrec]
 clear hent;generalize (w.alloc (.deferred (some []))).alloc (.loop (rec .ready))=W1 at hba hL hD hi0 hsz jmf
 refine⟨w.heap.size+1,[{target:=.collected w.heap.size,args:=#[]}],W1,{target:=.fn (.func gf) lb,args:=#[.func (.yield (w.heap.size+1)) #[] #[]]},W1,gf,#[.func (.yield (w.heap.size+1)) #[] #[]]++lb,W1,jmf,?_,?_,?_,λ_=>h1,?_⟩
 ·simp only[resolve,hg];simp[go_sem]
 ·intro f' hf';simp[Target.leads]at hf'
  subst hf';exact hFg
 ·simp[invoke,go_sem,eg]
 ·have hturn:∀ {A B:World} {row:Option Nat} {k:Nat} {o:Obj},A.grownBy B row->(∀r,row=some r->W1.heap.size<=r/\∃o:Obj,A.heap[r]?=some o/\o.isWalk=true)->k<w.heap.size+2->A.heap[k]?=some o->B.heap[k]?=some o:=λhg' hr hk ho=>
   (hg'.block _ (bJ.1 ho).1 (λe=>by have:=(hr _ e.symm).1;omega)).trans ho
  refine(hseq (w.heap.size+1) (λpre W=>I pre W/\W.heap[w.heap.size+1]?=some (.loop (rec .ready))/\W.heap[w.heap.size]?=some (.deferred (some []))) W1 hba (λ_ _ h=>h.1)
   (λs A B row hs hg' hr=>⟨hI s A B row hs.1 hg' (λr e=>by obtain⟨hB,o,ho,hw⟩:=hr r e;exact⟨by omega,o,ho,Obj.not_cells_of_walk hw⟩),hturn hg' hr (by omega) hs.2.1,hturn hg' hr (by omega) hs.2.2⟩) ?_ ⟨hi0,hL,hD⟩).mono ?_
  ·rintro pre x W ⟨hi,hl,hk⟩ hnx;have hlt:w.heap.size+1<W.heap.size:=(bJ.1 hl).1
   have hy:=run_yield (P:=P) (args:=encs x) hl (by rw[hrec];exact hps x)
   rw[hrec]at hy
   refine⟨fn,_,assign,body,hy,roundIn_of_wpIn hfn (A8 _ pre x W _ hi ?_)⟩
   clear hy;intro a' Wa hkf hia hax;have hla:=hkf.same _ _ (by omega) hl rfl
   have hka:=hkf.same _ _ (au _) hk rfl;refine⟨_,run_beginRound hla (by rw[hrec]),?_⟩
   have jtt:w.heap.size+1<Wa.heap.size:=(bJ.1 hla).1
   have hl2:(Wa.putObj (w.heap.size+1) (.loop {rec .ready with state:=.busy})).heap[w.heap.size+1]?=some (.loop {rec .ready with state:=.busy}):=World.putObj_heap_same jtt
   have hk2:(Wa.putObj (w.heap.size+1) (.loop {rec .ready with state:=.busy})).heap[w.heap.size]?=some (.deferred (some [])):=(World.putObj_heap_other (by omega)).trans hka
   refine wpIn_mono (hbody _ pre x a' _ (by omega) (hI.putObj _ hia (by omega) hla rfl) hnx ((hAx x a').putObj (s:=()) _ hax (by omega) hla rfl)) ?_
   rintro e a3 W3 hp;cases e with
   |normal=>
    obtain⟨hk3,hi3⟩:=hp;have hl3:=hk3.same _ _ (by omega) hl2 rfl
    have hd3:=hk3.same _ _ (au _) hk2 rfl;have hlt3:w.heap.size+1<W3.heap.size:=(bJ.1 hl3).1
    have hend:=run_endRound (P:=P) none hl3;refine⟨_,_,hend,rfl,hI.putObj _ hi3 (by omega) hl3 rfl,?_,?_⟩
    ·have:=World.putObj_heap_same (o:=Obj.loop {({rec .ready with state:=.busy}:Loop)with state:=.ready,pending:=none}) hlt3
     rw[hrec]at this ⊢
     exact this
    ·exact(World.putObj_heap_other (by omega)).trans hd3
   |ret=>exact hp.elim
   |exit id=>exact hp.elim
   |goto t=>exact hp.elim
   |panic ch=>exact hp.elim
   |outgrown=>exact hp.elim
  ·rintro e W2 ⟨⟨v,rfl⟩,xs,hS,hi,hl,hk⟩;have hend:=run_endLoop (P:=P) hl (by rw[hrec];simp)
   refine⟨none,_,by rw[hrec]at hend;exact hend,Hl _ xs _ (au _) hS (hI.putObj _ hi (by omega) hl rfl) ((World.putObj_heap_other (by omega)).trans hk)⟩
end Wh
namespace Wh
open Go Go.RowKit Go.Shelf Go.Proofs Tryz
attribute [local go_sem] aT
attribute [local go_sem] Oper.semAt_some
theorem jcK(n:Nat)(A:Option Addr)(k c:Nat)(w:World):
  CallsIn Fence.wide n prog 114 #[.slice A k c] w λe w'=>e=.returned (.func (.func 158) #[] #[.pointer (some ⟨w.heap.size,0,none⟩)])/\
   w'=w.alloc (.cells #[.slice A k c] 29):=by
 refine qQ func114 rfl trivial ?_ rfl
 simp only[ntmps114,jP,dw,dY,Nat.reduceAdd,Nat.reduceSub,jG,jF,kF,jO,iy,jK];gi_wp2
 go_ret
 exact⟨rfl,rfl⟩
def Zj(Bs:Nat)(A:Option Addr)(c:Nat)(xs:List Move)(k:Nat)(V:World):Prop:=
 V.cell? ⟨Bs,0,none⟩=some (.slice A xs.length c)/\∀i,i+k<xs.length->∃g,A=some ⟨g,0,none⟩/\V.cell? ⟨g,i*4,none⟩=some (.int .i64 (bH xs i).dh)/\V.cell? ⟨g,i*4+1,none⟩=some (.int .i64 (bH xs i).src)/\
  V.cell? ⟨g,i*4+2,none⟩=some (.int .i64 (bH xs i).dst)/\V.cell? ⟨g,i*4+3,none⟩=some (.int .i64 (bH xs i).n)
theorem jaC(n l Bs:Nat)(A:Option Addr)(c:Nat)(xs:List Move)(hn:1<=n)(kD:xs.length<=1000000)(J:List Nat->World->Prop)(W:World)(hJ:∀pre V,J pre V->Zj Bs A c xs pre.length V)
  (hY:∀pre x V,J pre V->(x+pre.length+1=xs.length)->YieldAt Fence.wide (n - 1) prog l #[.int .i64 (x:Nat),D8 (bH xs x)] V λe V'=>e=.returned (.bool true)/\J (pre++[x]) V') (h0:J [] W):
  CallsIn Fence.wide n prog 158 (#[.func (.yield l) #[] #[]]++#[.pointer (some ⟨Bs,0,none⟩)]) W λe V=>(∃v,e=.returned v)/\∃ys,ys.length=xs.length/\J ys V:=by
 change CallsIn Fence.wide n prog _ #[.func (.yield l) #[] #[],.pointer (some ⟨Bs,0,none⟩)] W _;refine qQ func158 rfl trivial ?_ rfl
 simp only[ntmps158,jP,dw,dY,Nat.reduceAdd,Nat.reduceSub,jG,jF,kF,jO,iy,jK];obtain⟨b0,_⟩:=hJ _ _ h0;have hw0:IntKind.i64.wrap ((xs.length:Int) - 1)=(xs.length:Int) - 1:=aN _ (by omega)
 gi_wp2
 clear b0;gi_loopw [3] (λi wr=>∃(j:Nat) (pre:List Nat),j+pre.length=xs.length/\i=.int .i64 ((j:Int) - 1)/\J pre wr) (λi _=>(RowKit.intOf i+1).toNat)
 case atStart=>exact⟨xs.length,[],rfl,rfl,h0⟩
 case round=>
  clear h0 hw0;obtain⟨j,pre,hj,rfl,hJr⟩:=hrel;cases j with
  |zero=>
   have t1:decide ((0:Int)<=((0:Nat):Int) - 1)=false:=by simp
   gi_wp2
   go_end0
   exact⟨⟨_,rfl⟩,pre,by omega,hJr⟩
  |succ m=>
   have e1:((m+1:Nat):Int) - 1=(m:Int):=by omega
   rw[e1];obtain⟨b0,hrd⟩:=hJ _ _ hJr;obtain⟨g,rfl,q0,q1,q2,q3⟩:=hrd m (by omega)
   have hm1:(m:Int)<(xs.length:Int):=by omega
   have hwm:IntKind.i64.wrap ((m:Int) - 1)=(m:Int) - 1:=aN _ (by omega)
   obtain⟨fn,tmps,assign,body,hy,hR⟩:=hY pre m wr hJr (by omega)
   unfold D8 at hy
   gi_wp2
   refine hR.mono ?_
   rintro e W3 ⟨rfl,hJ3⟩;gi_wp2
   go_roundw
   case rel=>exact⟨m,pre++[m],by rw[aZ,pX];omega,by go_num,hJ3⟩
   case measure=>simp[RowKit.intOf]
theorem jcL(n:Nat)(A:Option Addr)(k c:Nat)(w:World):
  CallsIn Fence.wide n prog 118 #[.slice A k c] w λe w'=>e=.returned (.func (.func 160) #[] #[.pointer (some ⟨w.heap.size,0,none⟩)])/\
   w'=w.alloc (.cells #[.slice A k c] 28):=by
 refine qQ func118 rfl trivial ?_ rfl
 simp only[ntmps118,jP,dw,dY,Nat.reduceAdd,Nat.reduceSub,jG,jF,kF,jO,iy,jK];gi_wp2
 go_ret
 exact⟨rfl,rfl⟩
def Zk(Bs:Nat)(A:Option Addr)(c:Nat)(xs:List dZ)(k:Nat)(V:World):Prop:=
 V.cell? ⟨Bs,0,none⟩=some (.slice A xs.length c)/\∀i,i+k<xs.length->∃g,A=some ⟨g,0,none⟩/\V.cell? ⟨g,i*4,none⟩=some (.int .i64 (hold xs i).aC)/\V.cell? ⟨g,i*4+1,none⟩=some (.int .i64 (hold xs i).aG)/\
  V.cell? ⟨g,i*4+2,none⟩=some (.int .i64 (hold xs i).bin)/\V.cell? ⟨g,i*4+3,none⟩=some (.int .i64 (hold xs i).n)
theorem jaD(n l Bs:Nat)(A:Option Addr)(c:Nat)(xs:List dZ)(hn:1<=n)(kD:xs.length<=1000000)(J:List Nat->World->Prop)(W:World)(hJ:∀pre V,J pre V->Zk Bs A c xs pre.length V)
  (hY:∀pre x V,J pre V->(x+pre.length+1=xs.length)->YieldAt Fence.wide (n - 1) prog l #[.int .i64 (x:Nat),um (hold xs x)] V λe V'=>e=.returned (.bool true)/\J (pre++[x]) V') (h0:J [] W):
  CallsIn Fence.wide n prog 160 (#[.func (.yield l) #[] #[]]++#[.pointer (some ⟨Bs,0,none⟩)]) W λe V=>(∃v,e=.returned v)/\∃ys,ys.length=xs.length/\J ys V:=by
 change CallsIn Fence.wide n prog _ #[.func (.yield l) #[] #[],.pointer (some ⟨Bs,0,none⟩)] W _;refine qQ func160 rfl trivial ?_ rfl
 simp only[ntmps160,jP,dw,dY,Nat.reduceAdd,Nat.reduceSub,jG,jF,kF,jO,iy,jK];obtain⟨b0,_⟩:=hJ _ _ h0;have hw0:IntKind.i64.wrap ((xs.length:Int) - 1)=(xs.length:Int) - 1:=aN _ (by omega)
 gi_wp2
 clear b0;gi_loopw [3] (λi wr=>∃(j:Nat) (pre:List Nat),j+pre.length=xs.length/\i=.int .i64 ((j:Int) - 1)/\J pre wr) (λi _=>(RowKit.intOf i+1).toNat)
 case atStart=>exact⟨xs.length,[],rfl,rfl,h0⟩
 case round=>
  clear h0 hw0;obtain⟨j,pre,hj,rfl,hJr⟩:=hrel;cases j with
  |zero=>
   have t1:decide ((0:Int)<=((0:Nat):Int) - 1)=false:=by simp
   gi_wp2
   go_end0
   exact⟨⟨_,rfl⟩,pre,by omega,hJr⟩
  |succ m=>
   have e1:((m+1:Nat):Int) - 1=(m:Int):=by omega
   rw[e1];obtain⟨b0,hrd⟩:=hJ _ _ hJr;obtain⟨g,rfl,q0,q1,q2,q3⟩:=hrd m (by omega)
   have hm1:(m:Int)<(xs.length:Int):=by omega
   have hwm:IntKind.i64.wrap ((m:Int) - 1)=(m:Int) - 1:=aN _ (by omega)
   obtain⟨fn,tmps,assign,body,hy,hR⟩:=hY pre m wr hJr (by omega)
   unfold um at hy
   gi_wp2
   refine hR.mono ?_
   rintro e W3 ⟨rfl,hJ3⟩;gi_wp2
   go_roundw
   case rel=>exact⟨m,pre++[m],by rw[aZ,pX];omega,by go_num,hJ3⟩
   case measure=>simp[RowKit.intOf]
end Wh
namespace Wh
open Go Go.RowKit Go.Shelf Go.Proofs Tryz
theorem XO(n:Nat)(h2:3<=n){g:Operand}{q1 q2 s1 s2:Nat}{assign body:Code}{Q:Exit->Act->World->Prop}{a:Act}{w:World}(Bs:Nat)(A:Option Addr)(c:Nat)(xs:List Move)(kD:xs.length<=1000000)
  (hg:a.eval g=.func (.func 158) #[] #[.pointer (some ⟨Bs,0,none⟩)])
  (I:Nat->World->Prop) (hI:OwnFrom w.heap.size I) (h0:I 0 w) (hR:∀k V,I k V->Zj Bs A c xs k V) (hsz:∀k V,I k V->w.heap.size<=V.heap.size)
  (A8:∀(l x:Nat) (W:World) (K:Act->World->Prop),K {tmps:=(((a.tmps.setIfInBounds q1 (.int .i64 (x:Nat))).setIfInBounds q2 (D8 (bH xs x))).setIfInBounds s1 (.int .i64 (x:Nat))).setIfInBounds s2 (.pointer (some ⟨W.heap.size,0,none⟩)),defers:=[]} (W.alloc (.cells #[.int .i64 (bH xs x).dh,.int .i64 (bH xs x).src,.int .i64 (bH xs x).dst,.int .i64 (bH xs x).n] 48))->
   assign.wpIn (Fence.wide.inRound l) (n - 1 - 1) prog (Exit.then K (λ_ _ _=>False)) {tmps:=(a.tmps.setIfInBounds q1 (.int .i64 (x:Nat))).setIfInBounds q2 (D8 (bH xs x)),defers:=[]} W)
  (hbody:∀(l k x X:Nat) (W:World),x+k+1=xs.length->I k W->iV W X 48 [.int .i64 (bH xs x).dh,.int .i64 (bH xs x).src,.int .i64 (bH xs x).dst,.int .i64 (bH xs x).n]->w.heap.size<=X->
   body.wpIn (Fence.wide.inRound l) (n - 1 - 1) prog (Exit.then (λ_ W'=>KeepsFrom w.heap.size W W'/\I (k+1) W') (λ_ _ _=>False)) {tmps:=(((a.tmps.setIfInBounds q1 (.int .i64 (x:Nat))).setIfInBounds q2 (D8 (bH xs x))).setIfInBounds s1 (.int .i64 (x:Nat))).setIfInBounds s2 (.pointer (some ⟨X,0,none⟩)),defers:=[]} W)
  (Hl:∀(D:Nat) (W:World),w.heap.size<=D->I xs.length W->W.heap[D]?=some (.deferred (some []))->Q .normal {a with defers:={target:=.collected D,args:=#[]}::a.defers} W):
  (Code.rangeFunc g #[q1,q2] assign body).wpIn Fence.wide n prog Q a w:=by
 refine IY (F:=Fence.wide) rfl (by omega) (gf:=158) (lb:=#[.pointer (some ⟨Bs,0,none⟩)]) hg trivial (enters_of func158 (by kernel_rfl) rfl)
  (encs:=λx:Nat=>#[.int .i64 (x:Nat),D8 (bH xs x)]) (λ_=>rfl) (λpre W=>I pre.length W) (λs A B row hs hg hr=>hI _ A B row hs hg hr) h0 (λpre x=>x+pre.length+1=xs.length) (λys=>ys.length=xs.length)
  (λl J W _ hJ _ hY hJ0=>jaC (n - 1) l Bs A c xs (by omega) kD J W (λpre V h=>hR _ _ (hJ pre V h)) hY hJ0)
  (λx a' W=>∃X,w.heap.size<=X/\iV W X 48 [.int .i64 (bH xs x).dh,.int .i64 (bH xs x).src,.int .i64 (bH xs x).dst,.int .i64 (bH xs x).n]/\a'={tmps:=(((a.tmps.setIfInBounds q1 (.int .i64 (x:Nat))).setIfInBounds q2 (D8 (bH xs x))).setIfInBounds s1 (.int .i64 (x:Nat))).setIfInBounds s2 (.pointer (some ⟨X,0,none⟩)),defers:=[]})
  (λx a' _ X Y row hs hg' hr=>by
   obtain⟨B,h1,h3,h4⟩:=hs;refine⟨B,h1,h3.grown hg' λe=>?_,h4⟩
   obtain⟨o,ho,hn⟩:=(hr _ e.symm).2;have h3':X.heap[B]?=_:=h3;rw[h3']at ho
   injection ho with ho
   subst ho;cases hn)
  (λl pre x W K hi hK=>?_) (λl pre x a' W _ hi hx hax=>?_) (λD ys W hD hS hi hd=>?_)
 ·have hz:Array.foldl (λt (x:Nat×Value)=>match x with|(p,v)=>t.setIfInBounds p v) a.tmps (#[q1,q2].zip #[Value.int .i64 ((x:Nat):Int),D8 (bH xs x)])=(a.tmps.setIfInBounds q1 (.int .i64 (x:Nat))).setIfInBounds q2 (D8 (bH xs x)):=by simp
  rw[hz];refine A8 l x W K (hK _ _ (G7 (oJ W _ none) (λr e=>by cases e)) (hI.alloc _ hi) ⟨W.heap.size,hsz _ _ hi,iV.new _ _ _,rfl⟩)
 ·obtain⟨X,hX,hb,rfl⟩:=hax;have:=hbody l pre.length x X W hx hi hb hX;have e:(pre++[x]).length=pre.length+1:=by simp
  rw[e];exact this
 ·rw[hS]at hi
  exact Hl D W hD hi hd
theorem XP(n:Nat)(h2:3<=n){g:Operand}{q1 q2 s1 s2:Nat}{assign body:Code}{Q:Exit->Act->World->Prop}{a:Act}{w:World}(Bs:Nat)(A:Option Addr)(c:Nat)(xs:List dZ)(kD:xs.length<=1000000)
  (hg:a.eval g=.func (.func 160) #[] #[.pointer (some ⟨Bs,0,none⟩)])
  (I:Nat->World->Prop) (hI:OwnFrom w.heap.size I) (h0:I 0 w) (hR:∀k V,I k V->Zk Bs A c xs k V) (hsz:∀k V,I k V->w.heap.size<=V.heap.size)
  (A8:∀(l x:Nat) (W:World) (K:Act->World->Prop),K {tmps:=(((a.tmps.setIfInBounds q1 (.int .i64 (x:Nat))).setIfInBounds q2 (um (hold xs x))).setIfInBounds s1 (.int .i64 (x:Nat))).setIfInBounds s2 (.pointer (some ⟨W.heap.size,0,none⟩)),defers:=[]} (W.alloc (.cells #[.int .i64 (hold xs x).aC,.int .i64 (hold xs x).aG,.int .i64 (hold xs x).bin,.int .i64 (hold xs x).n] 46))->
   assign.wpIn (Fence.wide.inRound l) (n - 1 - 1) prog (Exit.then K (λ_ _ _=>False)) {tmps:=(a.tmps.setIfInBounds q1 (.int .i64 (x:Nat))).setIfInBounds q2 (um (hold xs x)),defers:=[]} W)
  (hbody:∀(l k x X:Nat) (W:World),x+k+1=xs.length->I k W->iV W X 46 [.int .i64 (hold xs x).aC,.int .i64 (hold xs x).aG,.int .i64 (hold xs x).bin,.int .i64 (hold xs x).n]->w.heap.size<=X->
   body.wpIn (Fence.wide.inRound l) (n - 1 - 1) prog (Exit.then (λ_ W'=>KeepsFrom w.heap.size W W'/\I (k+1) W') (λ_ _ _=>False)) {tmps:=(((a.tmps.setIfInBounds q1 (.int .i64 (x:Nat))).setIfInBounds q2 (um (hold xs x))).setIfInBounds s1 (.int .i64 (x:Nat))).setIfInBounds s2 (.pointer (some ⟨X,0,none⟩)),defers:=[]} W)
  (Hl:∀(D:Nat) (W:World),w.heap.size<=D->I xs.length W->W.heap[D]?=some (.deferred (some []))->Q .normal {a with defers:={target:=.collected D,args:=#[]}::a.defers} W):
  (Code.rangeFunc g #[q1,q2] assign body).wpIn Fence.wide n prog Q a w:=by
 refine IY (F:=Fence.wide) rfl (by omega) (gf:=160) (lb:=#[.pointer (some ⟨Bs,0,none⟩)]) hg trivial (enters_of func160 (by kernel_rfl) rfl)
  (encs:=λx:Nat=>#[.int .i64 (x:Nat),um (hold xs x)]) (λ_=>rfl) (λpre W=>I pre.length W) (λs A B row hs hg hr=>hI _ A B row hs hg hr) h0 (λpre x=>x+pre.length+1=xs.length) (λys=>ys.length=xs.length)
  (λl J W _ hJ _ hY hJ0=>jaD (n - 1) l Bs A c xs (by omega) kD J W (λpre V h=>hR _ _ (hJ pre V h)) hY hJ0)
  (λx a' W=>∃X,w.heap.size<=X/\iV W X 46 [.int .i64 (hold xs x).aC,.int .i64 (hold xs x).aG,.int .i64 (hold xs x).bin,.int .i64 (hold xs x).n]/\a'={tmps:=(((a.tmps.setIfInBounds q1 (.int .i64 (x:Nat))).setIfInBounds q2 (um (hold xs x))).setIfInBounds s1 (.int .i64 (x:Nat))).setIfInBounds s2 (.pointer (some ⟨X,0,none⟩)),defers:=[]})
  (λx a' _ X Y row hs hg' hr=>by
   obtain⟨B,h1,h3,h4⟩:=hs;refine⟨B,h1,h3.grown hg' λe=>?_,h4⟩
   obtain⟨o,ho,hn⟩:=(hr _ e.symm).2;have h3':X.heap[B]?=_:=h3;rw[h3']at ho
   injection ho with ho
   subst ho;cases hn)
  (λl pre x W K hi hK=>?_) (λl pre x a' W _ hi hx hax=>?_) (λD ys W hD hS hi hd=>?_)
 ·have hz:Array.foldl (λt (x:Nat×Value)=>match x with|(p,v)=>t.setIfInBounds p v) a.tmps (#[q1,q2].zip #[Value.int .i64 ((x:Nat):Int),um (hold xs x)])=(a.tmps.setIfInBounds q1 (.int .i64 (x:Nat))).setIfInBounds q2 (um (hold xs x)):=by simp
  rw[hz];refine A8 l x W K (hK _ _ (G7 (oJ W _ none) (λr e=>by cases e)) (hI.alloc _ hi) ⟨W.heap.size,hsz _ _ hi,iV.new _ _ _,rfl⟩)
 ·obtain⟨X,hX,hb,rfl⟩:=hax;have:=hbody l pre.length x X W hx hi hb hX;have e:(pre++[x]).length=pre.length+1:=by simp
  rw[e];exact this
 ·rw[hS]at hi
  exact Hl D W hD hi hd
end Wh
namespace Wh
open Go Go.RowKit
section
variable {P:Program} {ops:Array Oper} {md:Region.Mode} {l₀ n:Nat} {Q:Exit→Act→World→Prop}
theorem jdy{o:Oper}{a:Act}{w:World}{K:Act->World->Prop}(hnd:∀c,o.op≠.defer c)(h:o.wp P a w K Q):o.wpIn (Fence.wide.inRound l₀) n P a w K Q:=by
 unfold Oper.wp at h
 unfold Oper.wpIn;refine⟨λ_ _=>trivial,?_⟩
 rw[Oper.semAt_plain _ _ _ hnd];generalize (execOp a.eval o).run P w=r at*
 cases r with
 |ok x w'=>
  cases x<;>simp only[Oper.upon]at h<;>simp only[Oper.uponIn]
  case value u=>exact h
  case skip=>exact h
  case defer d=>exact h
  case enter f args=>exact⟨λhd=>(by cases hd),CallsIn.inRound l₀ (iQ.2 (h.mono λe w'' hh=>by cases e<;>exact hh))⟩
  case row f args=>exact⟨λhd=>(by cases hd),λc cs _=>let ⟨v,w',r,s⟩:=h c cs;⟨v,w',r,stepsIn_wide.2 s⟩⟩
 |halt x w'=>cases x<;>simp only[Oper.upon]at h<;>simp only[Oper.uponIn]<;>exact h
theorem Kq(hnd:JQ ops=true)(hQ:¬LetsOut Q):∀(fuel:Nat) (dJ:Array Bool) (a:Act) (w:World),wpAny P md ops Q fuel dJ a w->wpAnyIn (Fence.wide.inRound l₀) n P md ops Q fuel dJ a w
 |0,_,_,_,h=>h
 |fuel+1,dJ,a,w,h=>⟨h.1,λi hi=>by
  have h1:=h.2 i hi;unfold wpOp at h1
  unfold wpOpIn;split
  ·rename_i ho
   simp only[ho]at h1
   exact Kq hnd hQ fuel _ _ _ h1
  ·rename_i o ho
   simp only[ho]at h1
   split
   ·rename_i hw
    simp only[hw,uf]at h1
    rcases h1 with h1|h1
    ·exact jdy (VI hnd ho) (oD (λa' w'=>Kq hnd hQ fuel _ a' w') h1)
    ·exact absurd h1.2 hQ
   ·rename_i hw
    simp only[hw]at h1
    exact⟨λ_ _=>trivial,Kq hnd hQ fuel _ _ _ h1⟩⟩
theorem IX{id:Nat}{a:Act}{w:World}(hnd:JQ ops=true)(hQ:¬LetsOut Q)(hm:P.follows .mixedOrders=true)(h:wpAny P .any ops Q ops.size (Array.replicate ops.size false) a w.drew):(Code.region id ops true).wpIn (Fence.wide.inRound l₀) n P Q a w:=
 wpIn_region_any hm (Kq hnd hQ _ _ _ _ h)
end
end Wh
