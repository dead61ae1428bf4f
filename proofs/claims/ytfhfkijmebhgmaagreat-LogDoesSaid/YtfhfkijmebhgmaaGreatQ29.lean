/- Texts of the claim, joined. -/
import Derived.RangeFuncBox
import Derived.RangeFuncCalls
import Derived.RangeFuncNested
import Derived.Test.YtfhfkijmebhgmaaGreatQ28
import Derived.Test.YtfhfkijmebhgmaaGreatQ06
set_option maxHeartbeats 20000000
set_option maxRecDepth 100000
namespace Wh
open Go Go.RowKit Go.Shelf Go.Proofs Tryz
attribute [local go_sem] au dQ dI dX
attribute [local go_sem] Oper.semAt_some
theorem jlC (w:World) (v vs:Value) (p:Plan) (s:State) (hp:fZ w w.heap.size v p) (hv:fE w w.heap.size vs s):
  Calls prog 49 #[v,vs] w (gU (fill p s) w):=by
 obtain ⟨Ab,cb,As,cs,rfl,hP',hBn,hSz,hlb,hls⟩:=kN hp;obtain ⟨A0,c0,A1,c1,A2,c2,A3,c3,A4,c4,A5,c5,A6,c6,rfl,hV,hN,hO,hH,hM,hI,hU,hX,hl0,hl1,hl2,hl3,hl4,hl5,CW⟩:=iG hv;refine (kD (n:=9)).1 ?_
 refine callsIn_of_wp_marks func49 rfl bP ?_ rfl
 simp only [ntmps49,qN,gQ,je,Nat.reduceAdd,Nat.reduceSub,rW,rV,rM,rQ,lq,qg];refine D7.2 ?_
 go_wp2_with fail;obtain ⟨W0,hW0,hb0,hsz0,hsz1,hsE,hK,hR⟩:=oH w p s Ab cb As cs A0 c0 A1 c1 A2 c2 A3 c3 A4 c4 A5 c5 A6 c6;rw [hW0];clear hW0;go_step3
 obtain ⟨⟨y0,y1⟩,x0,x1,x2,x3,x4,x5,x6,aV,aW⟩:=hK.out W0 (aj W0.heap.size W0);go_wp2_with fail;clear y0 y1 x0 x1 x2 x3 x4 x5 x6 aV aW;refine (G8 _ _ _ p s (hP'.out _ hb0) (hV.out _ hb0)).mono ?_
 rintro e W1 ⟨rfl,h1⟩;have hB1:=hb0.trans (h1.mono hb0.size);obtain ⟨⟨y0,y1⟩,x0,x1,x2,x3,x4,x5,x6,aV,aW⟩:=hK.out W1 (h1);by_cases hc:checkState p s=0
 ·have hc':=Lib.hid hc;have hsn:=Lib.hid (dV.1 hc).1;have hfin:=Lib.hid (jcV hc);rw [hc];clear hc;have hcnt:=hsn.out.counts;go_wp2_with fail;clear y0 y1 x0 x1 x2 x3 x4 x5 x6 aV aW;refine (Yg _ _ p s (hV.out _ hB1) hsn.out).mono ?_
  rintro e W5 ⟨_,rfl,⟨V5,rfl,qK⟩,h5⟩;obtain ⟨zS,con,_,_,_,_,Ip,_⟩:=qK.Jr (b:=0) (g:=0) (by rw [hsn.out.ku];omega) (by rw [hsn.out.rowLen (by omega)];omega)
  obtain ⟨k0,k1,k2,k3,k4,k5,k6,k7,k8⟩:=V5;obtain rfl:k0=.slice (some ⟨zS,0,none⟩) s.on.length con:=Ip;have jc:=(qK).one;have nK:=pV (W5);go_wp2_with (refine aK (.tmp 7) (.tmp 24) aP (⟨.slice (some ⟨zS,0,none⟩) s.on.length con,k1,k2,k3,k4,k5,k6,k7,k8⟩:SV) rfl nK rfl jc (fun w6 fH zO=>?_);refine aU ?_)
  unfold Hid;have jO:=jK zO;have lQ:=fH.lt;clear jc nK zO;have hx6:=Lib.hid (Bx.of fH (qK.below jO));have h06:=h1.trans ((h5.trans (jO.mono h5.size)).mono h1.size);have hle:w.heap.size≤W1.heap.size:=hB1.size;have hle0:W0.heap.size≤W1.heap.size:=h1.size;have qp:W1.heap.size≤W5.heap.size:=h5.size;clear fH qK jO h5 lQ h1 hB1;generalize W1.heap.size=base at hx6 hle hle0 qp
  generalize W5.heap.size=bx at hx6 qp ⊢
  have lQ:bx<w6.heap.size:=hx6.out.lt;obtain ⟨⟨y0,y1⟩,x0,x1,x2,x3,x4,x5,x6,aV,aW⟩:=hK.out w6 (h06);go_wp2_with fail;go_step3
  go_wp2_with fail;clear y0 y1 x0 x1 x2 x3 x4 x5 x6 aV aW;refine ((kD (n:=8)).1 (Pg Fence.wide 8 bP rfl _ _ true _)).mono ?_
  rintro e W2 ⟨rfl,rfl⟩;have hbA:=dw.new w6 25 #[.slice Ab p.aH.length cb,.slice As p.sizes.length cs];have hbB:iR [(w6.heap.size+1,Obj.cells #[.bool true] 4 (0,0))] ((w6.alloc (.cells #[.slice Ab p.aH.length cb,.slice As p.sizes.length cs] 25)).alloc (.cells #[.bool true] 4)):=by
   intro x hx;simp at hx
   subst hx;exact iq (by simp)
  have hba:Below w6.heap.size w6 ((w6.alloc (.cells #[.slice Ab p.aH.length cb,.slice As p.sizes.length cs] 25)).alloc (.cells #[.bool true] 4)):=((aj _ _).alloc (aA _) _).alloc (by simp) _
  have WM:=hbA.alloc (.cells #[.bool true] 4);have hszA:((w6.alloc (.cells #[.slice Ab p.aH.length cb,.slice As p.sizes.length cs] 25)).alloc (.cells #[.bool true] 4)).heap.size=w6.heap.size+1+1:=by simp
  go_wp2_with fail;clear hbA;generalize (w6.alloc (.cells #[.slice Ab p.aH.length cb,.slice As p.sizes.length cs] 25)).alloc (.cells #[.bool true] 4)=w7 at hbB hba WM hszA ⊢
  have hx7:=Lib.hid (hx6.out.below hba);have h07:=h06.trans (hba.mono h06.size);have jp2:w6.heap.size≤w7.heap.size:=hba.size;generalize w6.heap.size=z6 at hbB WM hszA jp2 lQ ⊢
  clear hba hx6 h06;have hB7:=hb0.trans (h07.mono hb0.size);refine (D7 (n:=9)).1 ?_
  refine jeO (sb:=8) p true 9 (by omega) z6 (z6+1) base Ab As cb cs (by omega) (by omega) (by omega) (by omega) rfl (WM.cell (j:=0) rfl) (WM.cell (j:=1) rfl) (Boxed.cell (show Boxed w7 (z6+1) 4 (.bool true) from hbB (z6+1,Obj.cells #[.bool true] 4 (0,0)) (by simp))) ?hA
   (fun pre W=>jfk base bx (fun u=>⟨.slice (some ⟨zS,0,none⟩) s.on.length con,k1,k2,u,k4,k5,k6,k7,k8⟩) [(z6+1,Obj.cells #[.bool true] 4 (0,0))] W0 (Ut p s pre) W)
   (fun c pre W=>c=Code.exit 0∧jfk base bx (fun u=>⟨.slice (some ⟨zS,0,none⟩) s.on.length con,k1,k2,u,k4,k5,k6,k7,k8⟩) [(z6+1,Obj.cells #[.bool true] 4 (0,0))] W0 (Ut p s pre) W∧8≤(Ut p s pre).moves.length)
   (UU _ ?hL ?hW) ?hIx ⟨⟨k3,hx7.out⟩,hbB,h07⟩ ?hsz ?hassign ?hbody ?hdone ?hstop
  case hA=>exact ((hBn.out w (aj _ _)).at_).up hB7 hle
  case hL=>
   intro x hx;simp at hx
   subst hx;show z6+1<w7.heap.size;omega
  case hW=>exact h07.size
  case hIx=>
   intro c pre X Y row hs hg hr;exact ⟨hs.1,UU (fun pre=>Ut p s pre) (B:=w7.heap.size) (by
    intro x hx;simp at hx
    subst hx;show z6+1<w7.heap.size;omega) h07.size pre X Y row hs.2.1 hg hr,hs.2.2⟩
  case hsz=>
   intro pre W hI;have:=hI.2.1.lt (z6+1,Obj.cells #[.bool true] 4 (0,0)) (by simp)
   simp only at this
   omega
  case hassign=>
   intro l x W K hK;simp only [iW,iy,iJ] at hK ⊢
   gi_wp2
   exact hK
  case hbody=>
   intro l pre x B W hl hr hI hBo hBw;simp only [iW,iy,iJ];obtain ⟨b,hb,hfr⟩:=x;obtain ⟨⟨u,hx⟩,hH,h0⟩:=hI;obtain ⟨⟨y0,y1⟩,x0,x1,x2,x3,x4,x5,x6,aV,aW⟩:=hK.out W (h0);have hcB:=hBo.cell;gi_wp2_with fail
   clear y0 y1 x0 x1 x2 x3 x4 x5 x6 aV aW;obtain ⟨rl,hr⟩:=hr;have hz7:z6+2≤w7.heap.size:=by omega
   clear hszA;have hWs:w7.heap.size≤W.heap.size:=bJ hl (nD (gX.1 hr).1)
   gi_loopw [31] (fun i wr=>∃ (g:Nat) (u:Value),g≤p.sizes.length∧i=.int .i64 g∧Bx wr base bx 31 [] ⟨.slice (some ⟨zS,0,none⟩) s.on.length con,k1,k2,u,k4,k5,k6,k7,k8⟩ (gdX p b (Ut p s pre) g)∧uT [(z6+1,Obj.cells #[.bool true] 4 (0,0)),(B,Obj.cells #[.int .i64 b] 3 (0,0))] base w7.heap.size W wr) (fun i _=>p.sizes.length - (intOf i).toNat)
   case atStart=>
    refine ⟨0,u,aT _,rfl,hx,uT.refl ?_⟩
    intro y hy;simp at hy
    rcases hy with rfl|rfl
    ·exact hH _ (by simp)
    ·exact hBo
   case round=>
    have hFb:=Lib.hid (jaB hc'.out pre);have hHo:=hH;clear hx hH hBo u hcB;have hbn:base≤W.heap.size:=by omega
    obtain ⟨g,u,hg,rfl,hx,hS⟩:=hrel;have hx':=Lib.hid hx;clear hx;have h0r:=h0.trans (hS.b.mono hle0);have hB0:=hb0.trans (h0r.mono hb0.size);have hcB:wr.cell? ⟨B,0,none⟩=some (.int .i64 b):=Boxed.cell (show Boxed wr B 3 (.int .i64 b) from hS.held (B,Obj.cells #[.int .i64 b] 3 (0,0)) (by simp))
    obtain ⟨⟨y0,y1⟩,x0,x1,x2,x3,x4,x5,x6,aV,aW⟩:=hK.out wr (h0r);by_cases hg1:g<p.sizes.length
    ·have hgi:(g:Int)<(p.sizes.length:Int):=by omega
     obtain ⟨os,ls,rs⟩:=(hSz.out wr hB0).at_.int hg1;have hFl:=Lib.hid (RH hFb.out hb hfr g hg);have hTs:=Lib.hid hFl.out.right.sane;have hon:=Lib.hid hFl.out.on;have hnx:=Lib.hid (RG (p:=p) b (Ut p s pre) g);obtain ⟨T,hT⟩:∃ T,gdX p b (Ut p s pre) g=T:=⟨_,rfl⟩;have hT':=Lib.hid hT;rw [hT] at hx' hFl hTs hon hnx
     clear hT;obtain ⟨c0,c1,c2,c3,c4,c5,c6⟩:=hx'.out.cells;simp only at c0 c1 c2 c3 c4 c5 c6
     have lbx:=hx'.out.lt;have lB:=hS.held.lt _ (fA _ (iK ..));simp only at lB
     gi_wp2_with fail
     have ha:Below wr.heap.size wr ((wr.alloc (.cells #[.int .i64 g] 3)).alloc (.cells #[.int .i64 (aC p.sizes g)] 3)):=((aj _ _).alloc (aA _) _).alloc (by simp) _
     refine ⟨bP,CallsIn.inRound l (kD.2 ((jcU _ _ _ p T b g (hP'.out _ (hB0.trans (ha.mono hB0.size))) ((hx'.out.own.view hTs.out).up ha ha.size) hTs.out hb hg1).mono ?_))⟩
     rintro e W3 ⟨rfl,h3⟩;clear y0 y1 x0 x1 x2 x3 x4 x5 x6 aV aW;clear c0 c1 c2 c3 c4 c5 c6 os ls rs hcB;have hH2:iR [(z6+1,Obj.cells #[.bool true] 4 (0,0)),(B,Obj.cells #[.int .i64 b] 3 (0,0)),(wr.heap.size,Obj.cells #[.int .i64 g] 3 (0,0)),(wr.heap.size+1,Obj.cells #[.int .i64 (aC p.sizes g)] 3 (0,0))] ((wr.alloc (.cells #[.int .i64 g] 3)).alloc (.cells #[.int .i64 (aC p.sizes g)] 3)):=by
      have hHa:=(hS.held.alloc (.cells #[.int .i64 g] 3)).alloc (.cells #[.int .i64 (aC p.sizes g)] 3);intro y hy;simp at hy
      rcases hy with rfl|rfl|rfl|rfl
      ·exact hHa _ (by simp)
      ·exact hHa _ (by simp)
      ·exact (heap_alloc_old (by simp)).trans (iq rfl)
      ·exact iq (by simp)
     have jlz:=ha.trans (h3.mono ha.size);have hx3:=Lib.hid (hx'.out.below jlz);have hS2:=hS.below hbn jlz;have hS3:uT [(z6+1,Obj.cells #[.bool true] 4 (0,0)),(B,Obj.cells #[.int .i64 b] 3 (0,0)),(wr.heap.size,Obj.cells #[.int .i64 g] 3 (0,0)),(wr.heap.size+1,Obj.cells #[.int .i64 (aC p.sizes g)] 3 (0,0))] base w7.heap.size W W3:=⟨hH2.below h3,hS2.b,hS2.k⟩;have h03:=h0.trans (hS3.b.mono hle0);have hw3:wr.heap.size+2≤W3.heap.size:=by have:=h3.size;simp at this;omega
     clear ha h3 hH2 hS hS2 jlz hx' h0r hB0;generalize wr.heap.size=z9 at hS3 hw3 lbx lB ⊢
     by_cases hlk:cell T.on b g+coming T b g<(p.bin b).low
     ·rw [lg hlk];have hsX:=Lib.hid (jhC hlk);have hB3:=hb0.trans (h03.mono hb0.size);obtain ⟨⟨y0,y1⟩,x0,x1,x2,x3,x4,x5,x6,aV,aW⟩:=hK.out W3 (h03);gi_wp2_with fail
      clear y0 y1 x0 x1 x2 x3 x4 x5 x6 aV aW;refine ⟨bP,CallsIn.inRound l (kD.2 ((kD (n:=8)).1 (Pg Fence.wide 8 bP rfl _ _ false _)|>.mono ?_))⟩
      rintro e W2 ⟨rfl,rfl⟩;have hbA:=dw.new W3 25 #[.slice Ab p.aH.length cb,.slice As p.sizes.length cs];have hba:Below W3.heap.size W3 ((W3.alloc (.cells #[.slice Ab p.aH.length cb,.slice As p.sizes.length cs] 25)).alloc (.cells #[.bool false] 4)):=((aj _ _).alloc (aA _) _).alloc (by simp) _
      have hH4:iR [(z6+1,Obj.cells #[.bool true] 4 (0,0)),(B,Obj.cells #[.int .i64 b] 3 (0,0)),(z9,Obj.cells #[.int .i64 g] 3 (0,0)),(z9+1,Obj.cells #[.int .i64 (aC p.sizes g)] 3 (0,0)),(W3.heap.size+1,Obj.cells #[.bool false] 4 (0,0))] ((W3.alloc (.cells #[.slice Ab p.aH.length cb,.slice As p.sizes.length cs] 25)).alloc (.cells #[.bool false] 4)):=by
       have hHa:=(hS3.held.alloc (.cells #[.slice Ab p.aH.length cb,.slice As p.sizes.length cs] 25)).alloc (.cells #[.bool false] 4);intro y hy;simp at hy
       rcases hy with rfl|rfl|rfl|rfl|rfl
       ·exact hHa _ (by simp)
       ·exact hHa _ (by simp)
       ·exact hHa _ (by simp)
       ·exact hHa _ (by simp)
       ·exact iq (by simp)
      have WM:=hbA.alloc (.cells #[.bool false] 4);have jnH:((W3.alloc (.cells #[.slice Ab p.aH.length cb,.slice As p.sizes.length cs] 25)).alloc (.cells #[.bool false] 4)).heap.size≥W3.heap.size+1+1:=by simp
      gi_wp2_with fail
      have hx4:=Lib.hid (hx3.out.below hba);have h04:=h03.trans (hba.mono h03.size);have hS4:=(hS3.below hbn hba).b;have jgB:=(hS3.below hbn hba).k;have hsz3:z9+2≤W3.heap.size:=hw3;clear hbA hS3 hx3 h03 hw3;generalize (W3.alloc (.cells #[.slice Ab p.aH.length cb,.slice As p.sizes.length cs] 25)).alloc (.cells #[.bool false] 4)=w4 at hH4 WM jnH hx4 h04 hS4 jgB hba ⊢
      clear hba;generalize W3.heap.size=z3 at hH4 WM jnH hsz3 ⊢
      have hB4:=hb0.trans (h04.mono hb0.size);obtain ⟨LL,hLL⟩:∃ LL:List (Nat×Obj),LL=[(z6+1,Obj.cells #[.bool true] 4 (0,0)),(B,Obj.cells #[.int .i64 b] 3 (0,0)),(z9,Obj.cells #[.int .i64 g] 3 (0,0)),(z9+1,Obj.cells #[.int .i64 (aC p.sizes g)] 3 (0,0)),(z3+1,Obj.cells #[.bool false] 4 (0,0))]:=⟨_,rfl⟩;rw [← hLL] at hH4
      have Ig:=Lib.hid hLL;clear hLL;have jp9:=jgB.same l _ hl hr rfl;have jow:W.heap.size≤w4.heap.size:=jgB.size;have jdP:∀ x∈LL,x.1<w4.heap.size:=hH4.lt;refine jaK (q:=48) (sb:=13) p false 7 l (by omega) jp9 z3 (z3+1) base Ab As cb cs (by omega) (by omega) (by omega) (by omega) rfl (WM.cell (j:=0) rfl) (WM.cell (j:=1) rfl) (Boxed.cell (show Boxed w4 (z3+1) 4 (.bool false) from hH4 (z3+1,Obj.cells #[.bool false] 4 (0,0)) (by rw [Ig.out];simp))) ?jA
       (fun pre' W'=>jfj base bx (fun u=>(⟨.slice (some ⟨zS,0,none⟩) s.on.length con,k1,k2,u,k4,k5,k6,k7,k8⟩:SV)) LL w7.heap.size W (Tv p b g T pre') W')
       (fun c pre' W'=>c=Code.exit 0∧jfj base bx (fun u=>(⟨.slice (some ⟨zS,0,none⟩) s.on.length con,k1,k2,u,k4,k5,k6,k7,k8⟩:SV)) LL w7.heap.size W (Tv p b g T pre') W'∧8≤(Tv p b g T pre').moves.length)
       (UR _ jdP hbn jow) ?jIx ⟨⟨u,hx4.out⟩,hH4,hS4,jgB⟩ ?jh4 ?jnw ?jnv ?jnu
      case jA=>exact ((hBn.out w (aj _ _)).at_).up hB4 hle
      case jIx=>
       intro c pre' X Y row hs hg hr;exact ⟨hs.1,UR (fun pre'=>Tv p b g T pre') (B:=w4.heap.size) jdP hbn jow pre' X Y row hs.2.1 hg hr,hs.2.2⟩
      case jh4=>
       intro l x W K hK;simp only [iW,iy,iJ] at hK ⊢
       gi_wp2
       exact hK
      case jnw=>
       intro l2 pre' x W' hI;simp only [iW,iy,iJ];clear hx4 hS4 jgB hB4 h04;obtain ⟨f,hf,S9⟩:=x;obtain ⟨⟨u2,hx⟩,hS⟩:=hI;have hnx2:=Lib.hid (jez b g T pre' ⟨f,hf,S9⟩);have jbO:=Lib.hid (jaD hFl.out hb hfr hg1 pre');have CX:=Lib.hid jbO.out.right.sane;have jib:=Lib.hid jbO.out.on;have hx':=Lib.hid hx;clear hx;obtain ⟨U,hU⟩:∃ U,Tv p b g T pre'=U:=⟨_,rfl⟩;rw [hU] at hx' jbO CX jib hnx2
       have hU':=Lib.hid hU;clear hU;obtain ⟨Am,cm,hum⟩:=hx'.out.own.moves.isSlice;obtain rfl:u2=.slice Am U.moves.length cm:=hum;obtain ⟨c0,c1,c2,c3,c4,c5,c6⟩:=hx'.out.cells;simp only at c0 c1 c2 c3 c4 c5 c6
       have hm8:=CX.out.lJ;have h0r:=h0.trans (hS.b.mono hle0);have hB0:=hb0.trans (h0r.mono hb0.size);have g1:W'.cell? ⟨B,0,none⟩=some (.int .i64 b):=Boxed.cell (show Boxed W' B 3 (.int .i64 b) from hS.held (B,Obj.cells #[.int .i64 b] 3 (0,0)) (by rw [Ig.out];simp))
       have g2:W'.cell? ⟨z9,0,none⟩=some (.int .i64 g):=Boxed.cell (show Boxed W' z9 3 (.int .i64 g) from hS.held (z9,Obj.cells #[.int .i64 g] 3 (0,0)) (by rw [Ig.out];simp))
       obtain ⟨⟨y0,y1⟩,x0,x1,x2,x3,x4,x5,x6,aV,aW⟩:=hK.out W' (h0r);by_cases h8:U.moves.length=8
       ·have h8i:((U.moves.length:Int)==8)=true:=by simp [h8]
        have he:=Lib.hid (show Tv p b g T (pre'++[⟨f,hf,S9⟩])=U by rw [hnx2.out];exact KG (by omega))
        gi_wp2_with fail
        exact ⟨KeepsFrom.refl _ _,rfl,⟨⟨_,by rw [he.out];exact hx'.out⟩,hS⟩,by rw [he.out];omega⟩
       ·have h8i:((U.moves.length:Int)==8)=false:=Po.2 (by omega)
        gi_wp2_with fail
        refine ⟨bP,CallsIn.inRound l2 (kD.2 ((jcU _ _ _ p U b g (hP'.out _ hB0) (hx'.out.own.view CX.out) CX.out hb hg1).mono ?_))⟩
        rintro e W5 ⟨rfl,h5⟩;clear y0 y1 x0 x1 x2 x3 x4 x5 x6 aV aW;clear c0 c1 c2 c3 c4 c5 c6 g1 g2;have hWn:base≤W'.heap.size:=bJ hbn hS.k.size;have hT0:uT LL base w7.heap.size W' W':=uT.refl hS.held;have hT5:=hT0.below hWn h5;have h05:=h0r.trans (h5.mono h0r.size);have hx5:=Lib.hid (hx'.out.below h5);clear h5 hT0 hx' hB0;have hB5:=hb0.trans (h05.mono hb0.size);obtain ⟨c0,c1,c2,c3,c4,c5,c6⟩:=hx5.out.cells;simp only at c0 c1 c2 c3 c4 c5 c6
        have g1:W5.cell? ⟨B,0,none⟩=some (.int .i64 b):=Boxed.cell (show Boxed W5 B 3 (.int .i64 b) from hT5.held (B,Obj.cells #[.int .i64 b] 3 (0,0)) (by rw [Ig.out];simp))
        have g2:W5.cell? ⟨z9,0,none⟩=some (.int .i64 g):=Boxed.cell (show Boxed W5 z9 3 (.int .i64 g) from hT5.held (z9,Obj.cells #[.int .i64 g] 3 (0,0)) (by rw [Ig.out];simp))
        have g3:W5.cell? ⟨z9+1,0,none⟩=some (.int .i64 (aC p.sizes g)):=Boxed.cell (show Boxed W5 (z9+1) 3 (.int .i64 (aC p.sizes g)) from hT5.held (z9+1,Obj.cells #[.int .i64 (aC p.sizes g)] 3 (0,0)) (by rw [Ig.out];simp))
        have jnn:=hx5.out.lt;have lB5:B<W5.heap.size:=hT5.held.lt (B,Obj.cells #[.int .i64 b] 3 (0,0)) (by rw [Ig.out];simp)
        have l95:z9<W5.heap.size:=hT5.held.lt (z9,Obj.cells #[.int .i64 g] 3 (0,0)) (by rw [Ig.out];simp)
        have jnq:z9+1<W5.heap.size:=hT5.held.lt (z9+1,Obj.cells #[.int .i64 (aC p.sizes g)] 3 (0,0)) (by rw [Ig.out];simp)
        obtain ⟨⟨y0,y1⟩,x0,x1,x2,x3,x4,x5,x6,aV,aW⟩:=hK.out W5 (h05);have q1:=fun o d os=>aG (w:=W5) (b:=bx) jnn o d os
        have q2:=fun o d os=>aG (w:=W5) (b:=B) lB5 o d os
        have q3:=fun o d os=>aG (w:=W5) (b:=z9) l95 o d os
        have q4:=fun o d os=>aG (w:=W5) (b:=z9+1) jnq o d os
        have q5:=fun o d os=>aG (w:=W5) (b:=w.heap.size) aW o d os
        have hV2:=Lib.hid (fun d os=>(hx5.out.own.view CX.out).up (dZ W5 d os) (dZ W5 d os).size)
        have hP2:=Lib.hid (fun d os=>hP'.out _ (hB5.trans ((dZ W5 d os).mono hB5.size)))
        have v1:=CX.out.cell hb hg1;have v2:=nN CX.out b g;have v3:0≤(p.bin b).high∧(p.bin b).high≤200:=(Aq hsn.out.plan hb).2.2;have v4:=pR hsn.out.plan hg1;have hz:(aC p.sizes g==0)=false:=Po.2 (by omega)
        have hbb:0≤(b:Int)∧(b:Int)<p.aH.length:=by omega
        have hgg:0≤(g:Int)∧(g:Int)<p.sizes.length:=by omega
        have jk4:0≤(f:Int)∧(f:Int)<p.aH.length:=by omega
        gi_wp2_with fail
        refine kU (by kernel_rfl) (by kernel_rfl) (by kernel_rfl) ?_
        repeat (go_big_quiet_step (first|(go_at_call 80;refine bD (ji9 _ _ p U f g (hV2.out _ _) CX.out jk4 hgg))|(go_at_call 93;refine bD (jeI _ _ _ p U b (hP2.out _ _) (hV2.out _ _) CX.out hbb))))
        refine wpQuiet_nil ?_
        intro W6 hw6;have hb6:=aI hw6;clear hw6;have jjt:(p.bin b).high - (cell U.on b g+coming U b g)=(p.bin b).high - cell U.on b g - coming U b g:=by omega
        rw [U3 CX.out hb,jjt,ZH];clear jjt;have hT6:=hT5.below hWn hb6;have h06:=h05.trans (hb6.mono h05.size);have hx6:=Lib.hid (hx5.out.below hb6);clear y0 y1 x0 x1 x2 x3 x4 x5 x6 aV aW;clear q1 q2 q3 q4 q5 hV2 hP2 c0 c1 c2 c3 c4 c5 c6 g1 g2 g3 hz hb6 hx5 hT5 h05 hB5 jnn lB5 l95 jnq;have hKp:∀ W9,uT LL base w7.heap.size W' W9→KeepsFrom w4.heap.size W' W9∧KpB base (z3+1) W' W9:=fun W9 h9=>
         ⟨KeepsFrom.weak h9.k (by omega),h9.b,(Boxed.cell (show Boxed W9 (z3+1) 4 (.bool false) from h9.held (z3+1,Obj.cells #[.bool false] 4 (0,0)) (by rw [Ig.out];simp))).trans (Boxed.cell (show Boxed W' (z3+1) 4 (.bool false) from hS.held (z3+1,Obj.cells #[.bool false] 4 (0,0)) (by rw [Ig.out];simp))).symm⟩
        have joQ:=Lib.hid hKp;clear hKp;by_cases hpos:0<zC p U b g f
        ·have hsm:=Lib.hid (show Tv p b g T (pre'++[⟨f,hf,S9⟩])=addMove U ⟨g,f,b,zC p U b g f⟩ by rw [hnx2.out];exact RS (by omega) hpos)
         obtain ⟨N,hN⟩:∃ N,zC p U b g f=N:=⟨_,rfl⟩;rw [hN] at hsm hpos
         rw [hN];clear hN;have hmo:=Lib.hid hx6.out.own.moves;have c3:W6.cell? ⟨bx,3,none⟩=some (.slice Am U.moves.length cm):=hx6.out.cells.2.2.2.1;have g1:W6.cell? ⟨B,0,none⟩=some (.int .i64 b):=Boxed.cell (show Boxed W6 B 3 (.int .i64 b) from hT6.held (B,Obj.cells #[.int .i64 b] 3 (0,0)) (by rw [Ig.out];simp))
         have g2:W6.cell? ⟨z9,0,none⟩=some (.int .i64 g):=Boxed.cell (show Boxed W6 z9 3 (.int .i64 g) from hT6.held (z9,Obj.cells #[.int .i64 g] 3 (0,0)) (by rw [Ig.out];simp))
         have lbx6:=hx6.out.lt;have jqN:base≤W6.heap.size:=by omega
         gi_wp2_with (refine Ti _ rfl (.tmp 76) (.tmp 82) 29 48 rfl base _ 4 32 underlying29 EC rfl (by decide) (by decide) _ U.moves ⟨g,f,b,N⟩ rfl (hmo.out.alloc _) ⟨W6.heap.size,0,none⟩ 1 rfl rfl (kT _ _ _) (Ja _) (by omega) (by simp;omega) ?_;refine aU ?_)
         unfold Hid;intro v' w9 zD dh Ci;obtain ⟨A9,c9,JG⟩:=zD.isSlice;rw [dK,Gv] at JG
         subst JG;have hal:Below W6.heap.size W6 (W6.alloc (.cells #[.int .i64 g,.int .i64 f,.int .i64 b,.int .i64 N] 48)):=(aj _ W6).alloc (aA _) _;have hxa:=hx6.out.below hal;have hTa:=hT6.below hWn hal;have ng:=hxa.own.BA dh zD;have Ce:some bx≠(Value.slice Am U.moves.length cm).ownBlock:=fun he=>by
          rcases hxa.own.moves.iD hxa.kW.blk (by decide) with h|h
          ·simp only at h;rw [h] at he;cases he
          ·exact h he.symm
         have hT9:=hTa.grown hWn dh (fun r e=>⟨(yO hxa.own.moves r e).1,hxa.jeM e.symm,fun x hx he=>iR.not_row hTa.held (by
          intro x hx cs sp e2;rw [Ig.out] at hx
          simp at hx
          rcases hx with rfl|rfl|rfl|rfl|rfl<;>simp at e2) hxa.own.moves x hx (by rw [he];exact e.symm)⟩)
         have WO:=Lib.hid (hxa.kW.grown dh Ce);have Zr:=Lib.hid ng;have hLb:∀ x∈LL,x.1≠bx:=by
          intro x hx;rw [Ig.out] at hx
          simp at hx
          rcases hx with rfl|rfl|rfl|rfl|rfl<;>simp only<;>omega
         clear c3 hxa ng Ce dh zD hmo hx6 Ci hTa hal g1 g2;gi_wp2_with (refine Tj rfl (.tmp 84) (.tmp 83) rfl rfl A9 (U.moves.length+1) c9 (V:=⟨.slice (some ⟨zS,0,none⟩) s.on.length con,k1,k2,.slice Am U.moves.length cm,k4,k5,k6,k7,k8⟩) (V':=⟨.slice (some ⟨zS,0,none⟩) s.on.length con,k1,k2,.slice A9 (U.moves.length+1) c9,k4,k5,k6,k7,k8⟩) (s':={U with moves:=U.moves++[⟨g,f,b,N⟩]}) (cs:=[]) (b:=bx) (by rw [mJ];exact WO.out.blk) Zr.out SN rfl rfl rfl (fun w10 tJ nJ=>?_);refine aU ?_)
         unfold Hid;have joC:=hT9.step hWn nJ (by omega) ⟨_,_,_,WO.out.blk⟩ hLb
         have jQ:=Lib.hid (show Bx w10 base bx 31 [] ⟨.slice (some ⟨zS,0,none⟩) s.on.length con,k1,k2,.slice A9 (U.moves.length+1) c9,k4,k5,k6,k7,k8⟩ (Tv p b g T (pre'++[⟨f,hf,S9⟩])) by rw [hsm.out];exact tJ)
         clear tJ nJ WO Zr hT9;gi_wp2_with fail
         have:=joQ.out _ joC;exact ⟨this.1,this.2,⟨_,jQ.out⟩,hS.trans joC⟩
        ·have he:=Lib.hid (show Tv p b g T (pre'++[⟨f,hf,S9⟩])=U by rw [hnx2.out];exact RU (by omega) hpos)
         gi_wp2_with fail
         have:=joQ.out _ hT6;exact ⟨this.1,this.2,⟨_,by rw [he.out];exact hx6.out⟩,hS.trans hT6⟩
      case jnv=>
       intro W' hI;obtain ⟨⟨u,hx⟩,hS⟩:=hI;have hx5:=Lib.hid (show Bx W' base bx 31 [] ⟨.slice (some ⟨zS,0,none⟩) s.on.length con,k1,k2,u,k4,k5,k6,k7,k8⟩ (gdX p b (Ut p s pre) (g+1)) by rw [hnx.out,hsX.out];exact hx)
       clear hx;gi_wp2_with fail
       go_roundw
       case rel=>exact ⟨g+1,u,by omega,by go_num,hx5.out,⟨fun y hy=>hS.held y (by rw [Ig.out];simp at hy ⊢;rcases hy with h|h<;>simp [h]),hS.b,hS.k⟩⟩
       case measure=>simp [intOf];omega
      case jnu=>
       intro c k W' hk hI;obtain ⟨rfl,⟨⟨u,hx⟩,hS⟩,h8⟩:=hI;have hfull:=jeA hk h8;have he1:gdX p b (Ut p s pre) (g+1)=Tv p b g T (jd p false k):=by rw [hnx.out,hsX.out,hfull]
       have he2:Ut p s (pre++[⟨b,hb,hfr⟩])=Tv p b g T (jd p false k):=by
        rw [Ye,← he1];exact Zz (by rw [he1];exact h8) p.sizes.length (by omega)
       rw [← he2] at hx h8
       clear hfull he1 he2;refine wpIn_exit ?_
       gi_wp2_with fail
       exact ⟨hS.k,rfl,⟨⟨u,hx⟩,(fun y hy=>hS.held y (by rw [Ig.out];simp at hy ⊢;simp [hy])),h0.trans (hS.b.mono hle0)⟩,h8⟩
     ·rw [iU hlk];have hx4:=Lib.hid (show Bx W3 base bx 31 [] ⟨.slice (some ⟨zS,0,none⟩) s.on.length con,k1,k2,u,k4,k5,k6,k7,k8⟩ (gdX p b (Ut p s pre) (g+1)) by rw [hnx.out];unfold jW;rw [ah hlk];exact hx3.out)
      clear hx3 hlk;gi_wp2_with fail
      go_roundw
      case rel=>exact ⟨g+1,u,by omega,by go_num,hx4.out,⟨fun y hy=>hS3.held y (by simp at hy ⊢;rcases hy with h|h<;>simp [h]),hS3.b,hS3.k⟩⟩
      case measure=>simp [intOf];omega
    ·obtain rfl:g=p.sizes.length:=by omega
     gi_wp2_with fail
     refine ⟨hS.k,⟨hS.b,?_⟩,⟨?_,?_,h0r⟩⟩
     ·exact (Boxed.cell (show Boxed wr (z6+1) 4 (.bool true) from hS.held _ (iK ..))).trans (Boxed.cell (show Boxed W (z6+1) 4 (.bool true) from hHo _ (iK ..))).symm
     ·exact ⟨u,by rw [Ye];exact hx'.out⟩
     ·intro y hy;exact hS.held y (by simp at hy ⊢;simp [hy])
  case hdone=>
   intro D W hD hI hWd;rw [jcj] at hI
   obtain ⟨⟨u,hx⟩,_,h0⟩:=hI;have hx':=Lib.hid hx;have hB9:=hb0.trans (h0.mono hb0.size);have aX:=hR.out _ h0;have eU:=hx.own.one;obtain ⟨q0,q1,q2,q3,q4,q5,q6⟩:=hx.cells;simp only at q0 q1 q2 q3 q4 q5 q6
   clear hx;go_wp2_with (refine aK (.tmp 4) (.tmp 86) aP (⟨.slice (some ⟨zS,0,none⟩) s.on.length con,k1,k2,u,k4,k5,k6,k7,k8⟩:SV) rfl aX rfl eU (fun w9 aN dh=>?_))
   have ng:=hx'.out.own.keptBy dh aX (by decide) (by decide) (by decide) (by decide) (by decide) (by decide)
   obtain ⟨p0,p1,p2,p3,p4,p5,p6⟩:=dN.cells aN;have aQ:=Below.bG hB9 dh;have jp5:=hsE.out;have jp8:=h07.size;have hD9:w9.heap[D]?=some (.deferred (some [])):=(dh.block D (gX.1 hWd).1 (by intro he;injection he with he;omega)).trans hWd
   clear q0 q1 q2 q3 q4 q5 q6;go_wp2_with fail;have hgD:=grownBy_putObj' w9 D (.deferred none);have jbG:=dN.grown aN hgD (by intro he;injection he with he;omega)
   have jgF:=ng.lU hgD (fun r e=>by cases e;exact ⟨_,hD9,rfl⟩)
   have jbw:Below w.heap.size w (w9.putObj D (.deferred none)):=zh aQ hgD (lG aQ) (fun k hk=>by injection hk with hk;omega)
   clear p0 p1 p2 p3 p4 p5 p6;obtain ⟨p0,p1,p2,p3,p4,p5,p6⟩:=dN.cells jbG;refine ⟨by simp,.inl ⟨_,_,rfl,run_takeDeferred hD9,?_⟩⟩
   exact ⟨.tuple #[SV.val (⟨.slice (some ⟨zS,0,none⟩) s.on.length con,k1,k2,u,k4,k5,k6,k7,k8⟩:SV),.int .i64 0],by simp [results,results49,go_sem,SV.val,p0,p1,p2,p3,p4,p5,p6],wH hfin.out (jgF.from_ hle) jbw⟩
  case hstop=>
   intro D c k W hD hk hI hWd;obtain ⟨rfl,hI,h8⟩:=hI;rw [← jet hk h8] at hI
   obtain ⟨⟨u,hx⟩,_,h0⟩:=hI;refine wpIn_exit ?_
   have hx':=Lib.hid hx;have hB9:=hb0.trans (h0.mono hb0.size);have aX:=hR.out _ h0;have eU:=hx.own.one;obtain ⟨q0,q1,q2,q3,q4,q5,q6⟩:=hx.cells;simp only at q0 q1 q2 q3 q4 q5 q6
   clear hx;go_wp2_with (refine aK (.tmp 4) (.tmp 86) aP (⟨.slice (some ⟨zS,0,none⟩) s.on.length con,k1,k2,u,k4,k5,k6,k7,k8⟩:SV) rfl aX rfl eU (fun w9 aN dh=>?_))
   have ng:=hx'.out.own.keptBy dh aX (by decide) (by decide) (by decide) (by decide) (by decide) (by decide)
   obtain ⟨p0,p1,p2,p3,p4,p5,p6⟩:=dN.cells aN;have aQ:=Below.bG hB9 dh;have jp5:=hsE.out;have jp8:=h07.size;have hD9:w9.heap[D]?=some (.deferred (some [])):=(dh.block D (gX.1 hWd).1 (by intro he;injection he with he;omega)).trans hWd
   clear q0 q1 q2 q3 q4 q5 q6;go_wp2_with fail;have hgD:=grownBy_putObj' w9 D (.deferred none);have jbG:=dN.grown aN hgD (by intro he;injection he with he;omega)
   have jgF:=ng.lU hgD (fun r e=>by cases e;exact ⟨_,hD9,rfl⟩)
   have jbw:Below w.heap.size w (w9.putObj D (.deferred none)):=zh aQ hgD (lG aQ) (fun k hk=>by injection hk with hk;omega)
   clear p0 p1 p2 p3 p4 p5 p6;obtain ⟨p0,p1,p2,p3,p4,p5,p6⟩:=dN.cells jbG;refine ⟨by simp,.inl ⟨_,_,rfl,run_takeDeferred hD9,?_⟩⟩
   exact ⟨.tuple #[SV.val (⟨.slice (some ⟨zS,0,none⟩) s.on.length con,k1,k2,u,k4,k5,k6,k7,k8⟩:SV),.int .i64 0],by simp [results,results49,go_sem,SV.val,p0,p1,p2,p3,p4,p5,p6],wH hfin.out (jgF.from_ hle) jbw⟩
 ·have hne:(checkState p s!=0)=true:=by simpa using hc
  have hfin:=Lib.hid (ZG hc);clear hc;have aX:=hR.out _ h1;go_wp2_with (refine aK (.tmp 4) (.tmp 21) aP aP rfl aX rfl rfl (fun w9 aN dh=>?_))
  obtain ⟨p0,p1,p2,p3,p4,p5,p6⟩:=dN.cells aN;have aQ:=Below.bG hB1 dh;go_wp2_with fail;rw [Exit.noGoto_ret];refine ⟨.tuple #[aP.val,.int .i64 (checkState p s)],by simp [results,results49,go_sem,SV.val,p0,p1,p2,p3,p4,p5,p6],dF hfin.out aQ⟩
end Wh
namespace Wh
open Go Go.RowKit Go.Shelf Go.Proofs Tryz
attribute [local go_sem] au
theorem Bx.jhD {w:World} {base b:Nat} {t:TypeId} {rest:List Value} {V:SV} {s:State} (h:Bx w base b t rest V s) (j:Nat) (u:Value):
  Bx (w.setCell ⟨b,7+j,none⟩ u) base b t (rest.set j u) V s∧w.grownBy (w.setCell ⟨b,7+j,none⟩ u) (some b):=by
 obtain ⟨h1,h2⟩:=pF h.box (7+j) u;have e:(V.cells++rest).set (7+j) u=V.cells++rest.set j u:=by
  rw [Bd _ _ (by simp [SV.cells])]
  simp [SV.cells]
 rw [e] at h1
 exact ⟨⟨h1,h.own.keptBy h2 h.box h.ty.h1 h.ty.h2 h.ty.h3 h.ty.h4 h.ty.h5 h.ty.h6,h.ty⟩,h2⟩
theorem jc2:jag 95:=⟨by decide,by decide,by decide,by decide,by decide,by decide⟩
abbrev xu (bin good over:Int) (m:Value):List Value:=[.int .i64 bin,.int .i64 good,.int .i64 over,m]
theorem jg6 (w:World) (n:Int) {base b:Nat} {V:SV} {s:State} {bin good over:Int} {m:Value} (hB:Bx w base b 95 (xu bin good over m) V s) (hn:0≤n∧n≤200) (ho: -1000000≤over∧over≤1000000):
  Calls prog 115 #[.pointer (some ⟨b,0,none⟩),.int .i64 n] w fun e w'=>e=.returned (.int .i64 (bI.less over n))∧Bx w' base b 95 (xu bin good (over - bI.less over n) m) V s∧Step (·=b) w w':=by
 have hB':=Lib.hid hB;have r1:=hB.box.cell (j:=9) rfl;have f1:=hB.box.frozen 9;have hw:IntKind.i64.wrap (over - n)=over - n:=bf _ (by omega)
 have hw2:IntKind.i64.wrap over=over:=bf _ (by omega)
 have fin:∀ q r:Int,q=bI.less over n→r=over - bI.less over n→Ending.returned (.int .i64 q)=.returned (.int .i64 (bI.less over n))∧Bx (w.setCell ⟨b,9,none⟩ (.int .i64 r)) base b 95 (xu bin good (over - bI.less over n) m) V s∧Step (·=b) w (w.setCell ⟨b,9,none⟩ (.int .i64 r)):=by
  rintro q r rfl rfl;obtain ⟨h1,h2⟩:=hB'.out.jhD 2 (.int .i64 (over - bI.less over n));exact ⟨rfl,h1,.dG h2 fun k hk=>by injection hk with hk;exact hk.symm⟩
 clear hB;have fin':=Lib.hid fin;clear fin;go_enter func115,ntmps115
 go_wp2_with fail;all_goals
  go_ret
  exact fin'.out _ _ (by unfold bI.less;omega) (by unfold bI.less;omega)
end Wh
namespace Wh
open Go Go.RowKit
theorem BI {α:Type} {F:Fence} {n:Nat} {P:Program} {g:Operand} {ps:Array Tmp} {assign body:Code} {Q:Exit→Act→World→Prop} {a:Act} {w:World}
  (hro:F.round=none) (h1:1≤n) {gf:Nat} {lb:Array Value} (hg:a.eval g=.func (.func gf) #[] lb) (hFg:F.fn gf) (eg:∀ args w,(callFunc gf args).run P w=.ok (.enter gf args) w)
  {encs:α→Array Value} (hps:∀ x,(encs x).size=ps.size)
  (I:List α→World→Prop) (hI:OwnFrom w.heap.size I) (h0:I [] w) (Nx:List α→α→Prop) (S:List α→Prop)
  (hseq:∀ (l:Nat) (J:List α→World→Prop) (W:World),Below w.heap.size w W→(∀ pre V,J pre V→I pre V)→AbidesFrom W.heap.size J→
   (∀ pre x V,J pre V→Nx pre x→YieldAt F (n - 1 - 1) P l (encs x) V fun e V'=>e=.returned (.bool true)∧J (pre++[x]) V')→J [] W→
   CallsIn F (n - 1) P gf (#[.func (.yield l) #[] #[]]++lb) W fun e V=>(∃ v,e=.returned v)∧∃ xs,S xs∧J xs V)
  (Ax:α→Act→World→Prop) (hAx:∀ x a',OwnFrom w.heap.size (fun (_:Unit) W=>Ax x a' W))
  (hassign:∀ (l:Nat) (pre:List α) (x:α) (W:World) (K:Act→World→Prop),I pre W→(∀ a' W',KeepsFrom w.heap.size W W'→I pre W'→Ax x a' W'→K a' W')→
   assign.wpIn (F.inRound l) (n - 1 - 1) P (Exit.then K (fun _ _ _=>False)) {tmps:=(ps.zip (encs x)).foldl (fun t (p,v)=>t.setIfInBounds p v) a.tmps,defers:=[]} W)
  (hbody:∀ (l:Nat) (pre:List α) (x:α) (a':Act) (W:World),w.heap.size≤l→I pre W→Nx pre x→Ax x a' W→
   body.wpIn (F.inRound l) (n - 1 - 1) P (Exit.then (fun _ W'=>KeepsFrom w.heap.size W W'∧I (pre++[x]) W') (fun _ _ _=>False)) a' W)
  (hdone:∀ (D:Nat) (xs:List α) (W:World),w.heap.size≤D→S xs→I xs W→W.heap[D]?=some (.deferred (some []))→Q .normal {a with defers:={target:=.collected D,args:=#[]}::a.defers} W):
  (Code.rangeFunc g ps assign body).wpIn F n P Q a w:=by
 refine wpIn_rangeFunc fun fn hfn=>?_
 rw [hro];obtain ⟨rec,hrec⟩:∃ rec:LoopState→Loop,rec=fun st=>{state:=st,pending:=none,fn,tmps:=a.tmps,params:=ps,assign,body,defers:=w.heap.size}:=⟨_,rfl⟩
 have hba:Below w.heap.size w ((w.alloc (.deferred (some []))).alloc (.loop (rec .ready))):=((aj _ w).alloc (aA _) _).alloc (by simp) _
 have hL:((w.alloc (.deferred (some []))).alloc (.loop (rec .ready))).heap[w.heap.size+1]?=some (.loop (rec .ready)):=by
  have:=World.alloc_heap_new (w.alloc (.deferred (some []))) (.loop (rec .ready));rwa [fP] at this
 have hD:((w.alloc (.deferred (some []))).alloc (.loop (rec .ready))).heap[w.heap.size]?=some (.deferred (some [])):=(LK _ _ _ (by simp)).trans (World.alloc_heap_new w _)
 have hi0:I [] ((w.alloc (.deferred (some []))).alloc (.loop (rec .ready))):=hI.alloc _ (hI.alloc _ h0);have hent:=run_enterLoop_outer (P:=P) (w:=w) fn a.tmps ps assign body;have hsz:((w.alloc (.deferred (some []))).alloc (.loop (rec .ready))).heap.size=w.heap.size+2:=by simp
 have jjA:(Instr.enterLoop fn a.tmps ps assign body none).run P w=.ok (w.heap.size+1,[{target:=.collected w.heap.size,args:=#[]}]) ((w.alloc (.deferred (some []))).alloc (.loop (rec .ready))):=by
  rw [hent,hrec]
 clear hent;generalize (w.alloc (.deferred (some []))).alloc (.loop (rec .ready))=W1 at hba hL hD hi0 hsz jjA
 refine ⟨w.heap.size+1,[{target:=.collected w.heap.size,args:=#[]}],W1,{target:=.fn (.func gf) lb,args:=#[.func (.yield (w.heap.size+1)) #[] #[]]},W1,gf,#[.func (.yield (w.heap.size+1)) #[] #[]]++lb,W1,jjA,?_,?_,?_,fun _=>h1,?_⟩
 ·simp only [resolve,hg];simp [go_sem]
 ·intro f' hf';simp [Target.leads] at hf'
  subst hf';exact hFg
 ·simp [invoke,go_sem,eg]
 ·have hturn:∀ {A B:World} {row:Option Nat} {k:Nat} {o:Obj},A.grownBy B row→(∀ r,row=some r→W1.heap.size≤r∧∃ o:Obj,A.heap[r]?=some o∧o.isWalk=true)→k<w.heap.size+2→A.heap[k]?=some o→B.heap[k]?=some o:=fun hg' hr hk ho=>
   (hg'.block _ (gX.1 ho).1 (fun e=>by have:=(hr _ e.symm).1;omega)).trans ho
  refine (hseq (w.heap.size+1) (fun pre W=>I pre W∧W.heap[w.heap.size+1]?=some (.loop (rec .ready))∧W.heap[w.heap.size]?=some (.deferred (some []))) W1 hba (fun _ _ h=>h.1)
   (fun s A B row hs hg' hr=>⟨hI s A B row hs.1 hg' (fun r e=>by obtain ⟨hB,o,ho,hw⟩:=hr r e;exact ⟨by omega,o,ho,Obj.not_cells_of_walk hw⟩),hturn hg' hr (by omega) hs.2.1,hturn hg' hr (by omega) hs.2.2⟩) ?_ ⟨hi0,hL,hD⟩).mono ?_
  ·rintro pre x W ⟨hi,hl,hk⟩ hnx;have hlt:w.heap.size+1<W.heap.size:=(gX.1 hl).1
   have hy:=run_yield (P:=P) (args:=encs x) hl (by rw [hrec];exact hps x)
   rw [hrec] at hy
   refine ⟨fn,_,assign,body,hy,roundIn_of_wpIn hfn (hassign _ pre x W _ hi ?_)⟩
   clear hy;intro a' Wa hkf hia hax;have hla:=hkf.same _ _ (by omega) hl rfl
   have hka:=hkf.same _ _ (aA _) hk rfl;refine ⟨_,run_beginRound hla (by rw [hrec]),?_⟩
   have jqj:w.heap.size+1<Wa.heap.size:=(gX.1 hla).1
   have hl2:(Wa.putObj (w.heap.size+1) (.loop {rec .ready with state:=.busy})).heap[w.heap.size+1]?=some (.loop {rec .ready with state:=.busy}):=World.putObj_heap_same jqj
   have hk2:(Wa.putObj (w.heap.size+1) (.loop {rec .ready with state:=.busy})).heap[w.heap.size]?=some (.deferred (some [])):=(World.putObj_heap_other (by omega)).trans hka
   refine wpIn_mono (hbody _ pre x a' _ (by omega) (hI.putObj _ hia (by omega) hla rfl) hnx ((hAx x a').putObj (s:=()) _ hax (by omega) hla rfl)) ?_
   rintro e a3 W3 hp;cases e with
   |normal=>
    obtain ⟨hk3,hi3⟩:=hp;have hl3:=hk3.same _ _ (by omega) hl2 rfl
    have hd3:=hk3.same _ _ (aA _) hk2 rfl;have hlt3:w.heap.size+1<W3.heap.size:=(gX.1 hl3).1
    have hend:=run_endRound (P:=P) none hl3;refine ⟨_,_,hend,rfl,hI.putObj _ hi3 (by omega) hl3 rfl,?_,?_⟩
    ·have:=World.putObj_heap_same (o:=Obj.loop {({rec .ready with state:=.busy}:Loop) with state:=.ready,pending:=none}) hlt3
     rw [hrec] at this ⊢
     exact this
    ·exact (World.putObj_heap_other (by omega)).trans hd3
   |ret=>exact hp.elim
   |exit id=>exact hp.elim
   |goto t=>exact hp.elim
   |panic ch=>exact hp.elim
   |outgrown=>exact hp.elim
  ·rintro e W2 ⟨⟨v,rfl⟩,xs,hS,hi,hl,hk⟩;have hend:=run_endLoop (P:=P) hl (by rw [hrec];simp)
   refine ⟨none,_,by rw [hrec] at hend;exact hend,hdone _ xs _ (aA _) hS (hI.putObj _ hi (by omega) hl rfl) ((World.putObj_heap_other (by omega)).trans hk)⟩
end Wh
namespace Wh
open Go Go.RowKit Go.Shelf Go.Proofs Tryz
attribute [local go_sem] au
attribute [local go_sem] Oper.semAt_some
theorem jaa (n:Nat) (A:Option Addr) (k c:Nat) (w:World):
  CallsIn Fence.wide n prog 114 #[.slice A k c] w fun e w'=>e=.returned (.func (.func 158) #[] #[.pointer (some ⟨w.heap.size,0,none⟩)])∧
   w'=w.alloc (.cells #[.slice A k c] 29):=by
 refine AU func114 rfl bP ?_ rfl
 simp only [ntmps114,qN,gQ,je,Nat.reduceAdd,Nat.reduceSub,rW,rV,rM,rQ,lq,qg];gi_wp2
 go_ret
 exact ⟨rfl,rfl⟩
def Vs (Bs:Nat) (A:Option Addr) (c:Nat) (xs:List Move) (k:Nat) (V:World):Prop:=
 V.cell? ⟨Bs,0,none⟩=some (.slice A xs.length c)∧∀ i,i+k<xs.length→∃ g,A=some ⟨g,0,none⟩∧V.cell? ⟨g,i*4,none⟩=some (.int .i64 (aB xs i).good)∧V.cell? ⟨g,i*4+1,none⟩=some (.int .i64 (aB xs i).src)∧
  V.cell? ⟨g,i*4+2,none⟩=some (.int .i64 (aB xs i).dst)∧V.cell? ⟨g,i*4+3,none⟩=some (.int .i64 (aB xs i).n)
theorem Xi (n l Bs:Nat) (A:Option Addr) (c:Nat) (xs:List Move) (hn:1≤n) (hlen:xs.length≤1000000) (J:List Nat→World→Prop) (W:World) (hJ:∀ pre V,J pre V→Vs Bs A c xs pre.length V)
  (hY:∀ pre x V,J pre V→(x+pre.length+1=xs.length)→YieldAt Fence.wide (n - 1) prog l #[.int .i64 (x:Nat),uK (aB xs x)] V fun e V'=>e=.returned (.bool true)∧J (pre++[x]) V') (h0:J [] W):
  CallsIn Fence.wide n prog 158 (#[.func (.yield l) #[] #[]]++#[.pointer (some ⟨Bs,0,none⟩)]) W fun e V=>(∃ v,e=.returned v)∧∃ ys,ys.length=xs.length∧J ys V:=by
 change CallsIn Fence.wide n prog _ #[.func (.yield l) #[] #[],.pointer (some ⟨Bs,0,none⟩)] W _;refine AU func158 rfl bP ?_ rfl
 simp only [ntmps158,qN,gQ,je,Nat.reduceAdd,Nat.reduceSub,rW,rV,rM,rQ,lq,qg];obtain ⟨b0,_⟩:=hJ _ _ h0;have hw0:IntKind.i64.wrap ((xs.length:Int) - 1)=(xs.length:Int) - 1:=bf _ (by omega)
 gi_wp2
 clear b0;gi_loopw [3] (fun i wr=>∃ (j:Nat) (pre:List Nat),j+pre.length=xs.length∧i=.int .i64 ((j:Int) - 1)∧J pre wr) (fun i _=>(intOf i+1).toNat)
 case atStart=>exact ⟨xs.length,[],rfl,rfl,h0⟩
 case round=>
  clear h0 hw0;obtain ⟨j,pre,hj,rfl,hJr⟩:=hrel;cases j with
  |zero=>
   have t1:decide ((0:Int)≤((0:Nat):Int) - 1)=false:=by simp
   gi_wp2
   go_end0
   exact ⟨⟨_,rfl⟩,pre,by omega,hJr⟩
  |succ m=>
   have e1:((m+1:Nat):Int) - 1=(m:Int):=by omega
   rw [e1];obtain ⟨b0,hrd⟩:=hJ _ _ hJr;obtain ⟨g,rfl,q0,q1,q2,q3⟩:=hrd m (by omega)
   have hm1:(m:Int)<(xs.length:Int):=by omega
   have hwm:IntKind.i64.wrap ((m:Int) - 1)=(m:Int) - 1:=bf _ (by omega)
   obtain ⟨fn,tmps,assign,body,hy,hR⟩:=hY pre m wr hJr (by omega)
   unfold uK at hy
   gi_wp2
   refine hR.mono ?_
   rintro e W3 ⟨rfl,hJ3⟩;gi_wp2
   go_roundw
   case rel=>exact ⟨m,pre++[m],by rw [dK,Gv];omega,by go_num,hJ3⟩
   case measure=>simp [intOf]
theorem jab (n:Nat) (A:Option Addr) (k c:Nat) (w:World):
  CallsIn Fence.wide n prog 118 #[.slice A k c] w fun e w'=>e=.returned (.func (.func 160) #[] #[.pointer (some ⟨w.heap.size,0,none⟩)])∧
   w'=w.alloc (.cells #[.slice A k c] 28):=by
 refine AU func118 rfl bP ?_ rfl
 simp only [ntmps118,qN,gQ,je,Nat.reduceAdd,Nat.reduceSub,rW,rV,rM,rQ,lq,qg];gi_wp2
 go_ret
 exact ⟨rfl,rfl⟩
def Vt (Bs:Nat) (A:Option Addr) (c:Nat) (xs:List Hold) (k:Nat) (V:World):Prop:=
 V.cell? ⟨Bs,0,none⟩=some (.slice A xs.length c)∧∀ i,i+k<xs.length→∃ g,A=some ⟨g,0,none⟩∧V.cell? ⟨g,i*4,none⟩=some (.int .i64 (hold xs i).order)∧V.cell? ⟨g,i*4+1,none⟩=some (.int .i64 (hold xs i).line)∧
  V.cell? ⟨g,i*4+2,none⟩=some (.int .i64 (hold xs i).bin)∧V.cell? ⟨g,i*4+3,none⟩=some (.int .i64 (hold xs i).n)
theorem Xj (n l Bs:Nat) (A:Option Addr) (c:Nat) (xs:List Hold) (hn:1≤n) (hlen:xs.length≤1000000) (J:List Nat→World→Prop) (W:World) (hJ:∀ pre V,J pre V→Vt Bs A c xs pre.length V)
  (hY:∀ pre x V,J pre V→(x+pre.length+1=xs.length)→YieldAt Fence.wide (n - 1) prog l #[.int .i64 (x:Nat),kG (hold xs x)] V fun e V'=>e=.returned (.bool true)∧J (pre++[x]) V') (h0:J [] W):
  CallsIn Fence.wide n prog 160 (#[.func (.yield l) #[] #[]]++#[.pointer (some ⟨Bs,0,none⟩)]) W fun e V=>(∃ v,e=.returned v)∧∃ ys,ys.length=xs.length∧J ys V:=by
 change CallsIn Fence.wide n prog _ #[.func (.yield l) #[] #[],.pointer (some ⟨Bs,0,none⟩)] W _;refine AU func160 rfl bP ?_ rfl
 simp only [ntmps160,qN,gQ,je,Nat.reduceAdd,Nat.reduceSub,rW,rV,rM,rQ,lq,qg];obtain ⟨b0,_⟩:=hJ _ _ h0;have hw0:IntKind.i64.wrap ((xs.length:Int) - 1)=(xs.length:Int) - 1:=bf _ (by omega)
 gi_wp2
 clear b0;gi_loopw [3] (fun i wr=>∃ (j:Nat) (pre:List Nat),j+pre.length=xs.length∧i=.int .i64 ((j:Int) - 1)∧J pre wr) (fun i _=>(intOf i+1).toNat)
 case atStart=>exact ⟨xs.length,[],rfl,rfl,h0⟩
 case round=>
  clear h0 hw0;obtain ⟨j,pre,hj,rfl,hJr⟩:=hrel;cases j with
  |zero=>
   have t1:decide ((0:Int)≤((0:Nat):Int) - 1)=false:=by simp
   gi_wp2
   go_end0
   exact ⟨⟨_,rfl⟩,pre,by omega,hJr⟩
  |succ m=>
   have e1:((m+1:Nat):Int) - 1=(m:Int):=by omega
   rw [e1];obtain ⟨b0,hrd⟩:=hJ _ _ hJr;obtain ⟨g,rfl,q0,q1,q2,q3⟩:=hrd m (by omega)
   have hm1:(m:Int)<(xs.length:Int):=by omega
   have hwm:IntKind.i64.wrap ((m:Int) - 1)=(m:Int) - 1:=bf _ (by omega)
   obtain ⟨fn,tmps,assign,body,hy,hR⟩:=hY pre m wr hJr (by omega)
   unfold kG at hy
   gi_wp2
   refine hR.mono ?_
   rintro e W3 ⟨rfl,hJ3⟩;gi_wp2
   go_roundw
   case rel=>exact ⟨m,pre++[m],by rw [dK,Gv];omega,by go_num,hJ3⟩
   case measure=>simp [intOf]
end Wh
