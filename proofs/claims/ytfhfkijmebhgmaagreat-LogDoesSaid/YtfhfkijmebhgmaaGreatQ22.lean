/- Texts of the claim, joined. -/
import Derived.StillTailTactics
import Derived.Test.YtfhfkijmebhgmaaGreatQ21
import Derived.Test.YtfhfkijmebhgmaaGreatQ04
set_option maxHeartbeats 20000000
set_option maxRecDepth 100000
namespace Wh
open Go Go.RowKit Go.Shelf Go.Proofs Tryz
attribute [local go_sem] aT jW jm kC
theorem dK.oP{w:World}{aO:Nat}{V:SV}{s:aJ}(h:dK w aO V s){o:Nat}(ho:o<s.ak.length){go n c:Nat}(hv:V.ak=.slice (some ⟨go,0,none⟩) n c):aO<=go/\go<w.heap.size/\
  w.cell? ⟨go,o*2,none⟩=some (.int .i64 (s.aC o).dW)/\w.cell? ⟨go,o*2+1,none⟩=some (V.aG o):=by
 obtain⟨g',c',cur,e1,h2,h3,z0,z1⟩:=h.aU ho;rw[hv]at e1
 injection e1 with e1
 injection e1 with e1
 injection e1 with e1
 subst e1;exact⟨h2,h3.lt,z0,z1⟩
theorem dK.Dx{w:World}{aO:Nat}{V:SV}{s:aJ}(h:dK w aO V s){o:Nat}(ho:o<s.ak.length)(hl:0<(s.aC o).aH.length):∃gl c,V.aG o=.slice (some ⟨gl,0,none⟩) (s.aC o).aH.length c/\aO<=gl:=by
 obtain⟨g,c,cur,e1,h2,_⟩:=h.gK ho hl;exact⟨g,c,e1,h2⟩
theorem dK.EL{w:World}{aO:Nat}{V:SV}{s:aJ}(h:dK w aO V s):∃A c,V.ak=.slice A s.ak.length c:=by
 obtain⟨A,c,e⟩:=h.ak.isSlice;exact⟨A,c,by rw[e,uJ h.llen]⟩
theorem Vf{V9 V V5:SV}(h:V9={V with aA:=V9.aA})(h':V={V5 with aA:=V.aA}):V9={V5 with aA:=V9.aA}:=by
 rw[h']at h
 exact h
theorem jfz(w:World)(v vs:Value)(p:dA)(s:aJ)(hp:mW w w.heap.size v p)(hv:lK w w.heap.size vs s):
  Calls prog 46 #[v,vs] w (nN (zq p s) w):=by
 obtain⟨Ab,cb,As,cs,rfl,hP',hBn,hSz,hlb,hls⟩:=sN hp;obtain⟨A0,c0,A1,c1,A2,c2,A3,c3,A4,c4,A5,c5,A6,c6,rfl,hV,hN,hO,hH,hM,hI,hU,hX,hl0,hl1,hl2,hl3,hl4,hl5,JA⟩:=oW hv;go_enter func46,ntmps46
 go_wp2_with fail;obtain⟨W0,hW0,hb0,lg,uZ,hsE,hK,hR⟩:=yD w p s Ab cb As cs A0 c0 A1 c1 A2 c2 A3 c3 A4 c4 A5 c5 A6 c6;rw[hW0];clear hW0;obtain⟨⟨y0,y1⟩,x0,x1,x2,x3,x4,x5,x6,eP,eU⟩:=hK.O W0 (aj W0.heap.size W0);go_wp2_with fail;clear y0 y1 x0 x1 x2 x3 x4 x5 x6 eP eU;refine(Nz _ _ _ p s (hP'.O _ hb0) (hV.O _ hb0)).mono ?_
 rintro e W1 ⟨rfl,h1⟩;have hB1:=hb0.trans (h1.mono hb0.size);obtain⟨⟨y0,y1⟩,x0,x1,x2,x3,x4,x5,x6,eP,eU⟩:=hK.O W1 (h1);by_cases hc:aQ p s=0
 ·have hc':=ah hc;have hsn:=ah (kM.1 hc).1;have bK:=ah (Vs hc);have h4:=hsn.O.qH;rw[hc];clear hc;go_wp2_with fail;clear y0 y1 x0 x1 x2 x3 x4 x5 x6 eP eU;refine(ja1 _ _ p s (hV.O _ hB1) hsn.O).mono ?_
  rintro e W5 ⟨_,rfl,⟨V5,rfl,AY⟩,h5⟩;have pq:=(AY).one;have xw:=vG (W5);go_wp2_with (refine dB (.tmp 7) (.tmp 22) dH V5 rfl xw rfl pq (λw6 lM Ib=>?_);refine aW ?_)
  unfold Hid;have sG:=qX Ib;have vT:=lM.lt;clear pq xw Ib;have hx6:=ah (Bx.of lM (AY.below sG));have h06:=h1.trans ((h5.trans (sG.mono h5.size)).mono h1.size);have hle:w.heap.size<=W1.heap.size:=hB1.size;have hle0:W0.heap.size<=W1.heap.size:=h1.size;have zZ:W1.heap.size<=W5.heap.size:=h5.size;clear lM AY sG h5 vT h1 hB1;generalize W1.heap.size=aO at hx6 hle hle0 zZ
  generalize W5.heap.size=bx at hx6 zZ ⊢
  obtain⟨Ao,co,hvo⟩:=hx6.O.own.EL;have Gp:=ah hvo;have c1:=hx6.O.cells.2.1;rw[hvo]at c1
  clear hvo;go_wp2_with fail;clear c1;go_loopw[26,8,9,10] (λi _ _ _ wr=>∃n:Nat,n<=s.ak.length/\i=.int .i64 n/\Bx wr aO bx 31 [] V5 (tX s n)/\Below W0.heap.size W0 wr) (λi _ _ _ _=>s.ak.length - (RowKit.intOf i).toNat)
  case atStart=>exact⟨0,aK _,rfl,by rw[TY];exact hx6.O,h06⟩
  case round=>
   clear hx6 h06;obtain⟨n,hn,rfl,hx,h0⟩:=hrel;have hx':=ah hx;clear hx;by_cases hlt:n<s.ak.length
   ·have hni:(n:Int)<(s.ak.length:Int):=by omega
    have KT:n<(tX s n).ak.length:=by rw[Ez];exact hlt
    have l13:=hsn.O.tN hlt;obtain⟨go,_,_,eo,-⟩:=hx'.O.own.aU KT;rw[Gp.O]at eo
    injection eo with eo e2 e3
    subst eo;clear e2 e3;obtain⟨hgo,jgc,z0,z1⟩:=hx'.O.own.oP KT Gp.O;rw[Ir hlt]at z0
    have c1:=hx'.O.cells.2.1;rw[Gp.O]at c1
    clear KT;by_cases hk:(s.aC n).dW=0
    ·have hq:((s.aC n).dW==0)=true:=by simpa using hk
     have hk':=ah hk;clear hk;go_wp2_with (refine F6 rfl (.tmp 40) (.const (.int .i64 1)) rfl rfl (i:=n) (q:=1) hx'.O (by rw[Ez];exact hlt) Gp.O rfl rfl (λw7 hx7 Ee=>?_);refine aW ?_)
     unfold Hid;rw[Uc hlt]at hx7
     have h07:=h0.trans (Ee.below (B:=W0.heap.size) (λq hq=>by omega) h0.size)
     have zx:=ah hx7;clear Ee hx7 z0 z1 c1 hq hx';obtain⟨_,_,z0,z1⟩:=zx.O.own.oP (by rw[Jo];exact hlt) Gp.O
     obtain⟨gl,cl,e1,hgl⟩:=zx.O.own.Dx (o:=n) (by rw[Jo];exact hlt) (by rw[DI hlt];omega)
     rw[DI hlt]at e1
     have e1':=ah e1;rw[e1]at z1
     clear e1 z0;go_wp2_with fail;clear z1;go_loopw[46,10] (λi _ wr=>∃k:Nat,k<=(s.aC n).aH.length/\i=.int .i64 k/\Bx wr aO bx 31 [] V5 (Dk s n k)/\Below W0.heap.size W0 wr) (λi _ _=>(s.aC n).aH.length - (RowKit.intOf i).toNat)
     case atStart=>exact⟨0,aK _,rfl,zx.O,h07⟩
     case round=>
      clear zx h07 h0;obtain⟨k,hkl,rfl,hx,h0⟩:=hrel;have hx':=ah hx;clear hx;by_cases hkt:k<(s.aC n).aH.length
      ·have hki:(k:Int)<((s.aC n).aH.length:Int):=by omega
       have hon:n<(Dk s n k).ak.length:=by rw[Jo];exact hlt
       have hkn:k<((Dk s n k).aC n).aH.length:=by rw[DI hlt];exact hkt
       obtain⟨_,_,_,z1⟩:=hx'.O.own.oP hon Gp.O;rw[e1'.O]at z1
       obtain⟨XZ,f0,f1,f2,f3⟩:=hx'.O.own.sV hon hkn e1'.O;rw[J4 hlt hkt]at f1
       have Wj:=ah hx'.O.drew;clear f0 f2 f3;go_wp2_with fail;go_still_tail 15,(by kernel_rfl)
       change wpList _ _ _ _ _ wr.drew;refine AO rfl (.tmp 63) (.tmp 61) rfl rfl (j:=3) (y:={s.aG n k with dP:=(s.aG n k).iw}) Wj.O hon hkn e1'.O (by decide) (by rw[J4 hlt hkt];rfl) rfl rfl (λw9 uO wJ=>?_)
       refine fC ?_
       rw[Ud hlt hkt]at uO
       have h09:=h0.drew.trans (wJ.below (B:=W0.heap.size) (λq hq=>by omega) h0.drew.size)
       have Dj:=ah uO;clear wJ uO z1 f1 hx' Wj hon hkn;go_wp2_with fail;go_roundw
       case rel=>exact⟨k+1,by omega,by go_num,Dj.O,h09⟩
       case measure=>simp[RowKit.intOf];omega
      ·obtain rfl:k=(s.aC n).aH.length:=by omega
       have hx2:=ah (show Bx wr aO bx 31 [] V5 (tX s (n+1))by rw[<- WS hlt hk'.O];exact hx'.O)
       go_wp2_with fail;go_roundw
       case rel=>exact⟨n+1,by omega,by go_num,hx2.O,h0⟩
       case measure=>simp[RowKit.intOf];omega
    ·have hq:((s.aC n).dW==0)=false:=by simpa using hk
     have hx2:=ah (show Bx wr aO bx 31 [] V5 (tX s (n+1))by rw[Ub hlt hk];exact hx'.O)
     clear hk;go_wp2_with fail;go_roundw
     case rel=>exact⟨n+1,by omega,by go_num,hx2.O,h0⟩
     case measure=>simp[RowKit.intOf];omega
   ·obtain rfl:n=s.ak.length:=by omega
    have hx6:=ah (show Bx wr aO bx 31 [] V5 (jV p 0 (mV s))by rw[<- WR];exact hx'.O)
    have c1:=hx'.O.cells.2.1;rw[Gp.O]at c1
    clear hx';go_wp2_with fail;clear c1;have h06:=h0;clear h0;go_loopw[69,11,12,13] (λi _ _ _ wr=>∃(n:Nat) (V:SV),V={V5 with aA:=V.aA}/\n<=s.ak.length/\i=.int .i64 n/\Bx wr aO bx 31 [] V (jV p n (mV s))/\Below W0.heap.size W0 wr) (λi _ _ _ _=>s.ak.length - (RowKit.intOf i).toNat)
    case atStart=>exact⟨0,V5,rfl,aK _,rfl,hx6.O,h06⟩
    case round=>
     clear hx6 h06;obtain⟨n,V,Xv,hn,rfl,hx,h0⟩:=hrel;have hx':=ah hx;have Ph:=ah (show V.ak=.slice Ao s.ak.length co by rw[Xv];exact Gp.O)
     have KC:=ah Xv;clear hx Xv;by_cases hlt:n<s.ak.length
     ·have hni:(n:Int)<(s.ak.length:Int):=by omega
      have l13:=hsn.O.tN hlt;obtain⟨hrt,kD,Hz⟩:=LP (p:=p) hc'.O hn;have KT:n<(jV p n (mV s)).ak.length:=by rw[kD];exact hlt
      have hln:=Hz n hlt;obtain⟨go,_,_,eo,-⟩:=hx'.O.own.aU KT;rw[Ph.O]at eo
      injection eo with eo e2 e3
      subst eo;clear e2 e3;obtain⟨hgo,jgc,z0,z1⟩:=hx'.O.own.oP KT Ph.O;obtain⟨gl,cl,e1,hgl⟩:=hx'.O.own.Dx KT (by rw[hln];omega)
      rw[hln]at e1
      rw[e1]at z1
      have e1':=ah e1;have hl0:=ah h0;generalize hkd:((jV p n (mV s)).aC n).dW=kd at z0
      have SQ:=ah hkd;clear hkd hrt kD Hz KT hln e1;by_cases hk:kd=1
      ·subst hk;have h0a:=h0.alloc h0.size (.cells #[.int .i64 1,.slice (some ⟨gl,0,none⟩) (s.aC n).aH.length cl] 42);have hxa:=ah (hx'.O.below ((aj wr.heap.size wr).alloc (au _) (.cells #[.int .i64 1,.slice (some ⟨gl,0,none⟩) (s.aC n).aH.length cl] 42)));go_wp2_with fail;clear z0 z1 h0 hl0 hx';generalize wr.heap.size=wo;generalize wr.alloc (.cells #[.int .i64 1,.slice (some ⟨gl,0,none⟩) (s.aC n).aH.length cl] 42)=wa at h0a hxa ⊢
       go_loopw[80,13] (λi _ wr=>∃(k:Nat) (V:SV),V={V5 with aA:=V.aA}/\k<=(s.aC n).aH.length/\i=.int .i64 k/\Bx wr aO bx 31 [] V (Ed p s n k)/\Below W0.heap.size W0 wr) (λi _ _=>(s.aC n).aH.length - (RowKit.intOf i).toNat)
       case atStart=>exact⟨0,V,KC.O,aK _,rfl,hxa.O,h0a⟩
       case round=>
        clear hxa h0a Ph KC e1' V;obtain⟨k,V,Xv,hkl,rfl,hx,h0⟩:=hrel;have hx':=ah hx;have Ph:=ah (show V.ak=.slice (some ⟨go,0,none⟩) s.ak.length co by rw[Xv];exact Gp.O)
        have KC:=ah Xv;clear hx Xv;by_cases hkt:k<(s.aC n).aH.length
        ·have hki:(k:Int)<((s.aC n).aH.length:Int):=by omega
         obtain⟨hrt,kD,_,hln⟩:=LQ hc'.O hlt SQ.O hkl;have hmay:=ah (ja8 hc'.O hlt SQ.O hkt);have jbO:=ah hrt;have hon:n<(Ed p s n k).ak.length:=by rw[kD];exact hlt
         have hkn:k<((Ed p s n k).aC n).aH.length:=by rw[hln];exact hkt
         obtain⟨_,_,_,z1⟩:=hx'.O.own.oP hon Ph.O;obtain⟨gl2,cl2,e1,jre⟩:=hx'.O.own.Dx hon (by rw[hln];omega)
         rw[hln]at e1
         rw[e1]at z1
         obtain⟨XZ,f0,f1,f2,f3⟩:=hx'.O.own.sV hon hkn e1;have c1:=hx'.O.cells.2.1;rw[Ph.O]at c1
         have hxd:=ah hx'.O.drew;have hBd:=hb0.trans (h0.drew.mono hb0.size);have e1':=ah e1;obtain⟨⟨y0,y1⟩,x0,x1,x2,x3,x4,x5,x6,eP,eU⟩:=hK.O wr (h0);clear f0 f1 f2 hrt kD hln hon hkn e1 x0 x1 x2 x3 x4 x5 x6 eP;go_wp2_with fail;go_still_tail 13,(by kernel_rfl)
         change wpList _ _ _ _ _ wr.drew;clear y0 y1 eU z1 f3 c1;go_wp2_with fail;refine(jeH wr.drew _ p (Ed p s n k) n k _ (-1) (hP'.O _ hBd) jbO.O hmay.O hxd.O (by have:=h0.size;show aO<=wr.heap.size;omega)).mono ?_
         rintro e w9 ⟨rfl,V9,hV9,uO,wJ⟩;have h09:=h0.drew.trans (wJ.below (B:=W0.heap.size) (λq hq=>by
          rcases hq with rfl|hq
          ·omega
          ·rw[e1'.O]at hq
           change some gl2=some q at hq
           injection hq with hq
           omega) h0.drew.size)
         have ji5:=ah (Vf hV9 KC.O);have Dj:=ah (show Bx w9 aO bx 31 [] V9 (Ed p s n (k+1))from uO)
         clear uO wJ hV9 hxd hx' KC Ph hmay jbO e1';go_wp2_with fail;go_roundw
         case rel=>exact⟨k+1,V9,ji5.O,by omega,by go_num,Dj.O,h09⟩
         case measure=>simp[RowKit.intOf];omega
        ·obtain rfl:k=(s.aC n).aH.length:=by omega
         have hx2:=ah (show Bx wr aO bx 31 [] V (jV p (n+1) (mV s))by rw[<- ja7 hc'.O hlt SQ.O];exact hx'.O)
         go_wp2_with fail;go_roundw
         case rel=>exact⟨n+1,V,KC.O,by omega,by go_num,hx2.O,h0⟩
         case measure=>simp[RowKit.intOf];omega
      ·have hq:(kd !=1)=true:=by simpa using hk
       have h0a:=h0.alloc h0.size (.cells #[.int .i64 kd,.slice (some ⟨gl,0,none⟩) (s.aC n).aH.length cl] 42);have hxa:=ah (show Bx _ aO bx 31 [] V (jV p (n+1) (mV s))by rw[jeT (by rw[SQ.O];exact hk)];exact(hx'.O.below ((aj wr.heap.size wr).alloc (au _) (.cells #[.int .i64 kd,.slice (some ⟨gl,0,none⟩) (s.aC n).aH.length cl] 42))))
       clear hk;go_wp2_with fail;go_roundw
       case rel=>exact⟨n+1,V,KC.O,by omega,by go_num,hxa.O,h0a⟩
       case measure=>simp[RowKit.intOf];omega
     ·obtain rfl:n=s.ak.length:=by omega
      have hB0:=hb0.trans (h0.mono hb0.size);have hx2:=ah (show Bx wr aO bx 31 [] V (Ec p s)from hx'.O)
      clear hx';have fH:=hR.O _ h0;obtain⟨b0,b1,b2,b3,b4,b5,b6⟩:=jk.cells hx2.O.uK;have lG:=dK.one hx2.O.own;go_wp2_with (refine dB (.tmp 4) (.tmp 99) dH V rfl fH rfl lG (λw9 dM je=>?_))
      have wC:=dK.keptBy hx2.O.own je fH (by decide) (by decide) (by decide) (by decide) (by decide) (by decide)
      have dN:=Below.gB hB0 je;clear b0 b1 b2 b3 b4 b5 b6;go_wp2_with fail;exact jo results46 dM rfl rfl (EZ bK.O (wC.from_ hle) dN)
 ·have hne:(aQ p s !=0)=true:=by simpa using hc
  have bK:=ah (TJ hc);clear hc;have fH:=hR.O _ h1;go_wp2_with (refine dB (.tmp 4) (.tmp 19) dH dH rfl fH rfl rfl (λw9 dM je=>?_))
  have dN:=Below.gB hB1 je;go_wp2_with fail;exact jo results46 dM rfl rfl (jQ bK.O dN)
end Wh
namespace Wh
open Go Go.RowKit Go.Shelf Go.Proofs Tryz
attribute [local go_sem] aT
theorem jhj(w:World)(v:Value)(l:List dZ)(o ln b n:Int)(hv:Sl ig w w.heap.size v l)(hok:iD l=true)(xB:sD o ln b):
  Calls prog 73 #[v,.int .i64 o,.int .i64 ln,.int .i64 b,.int .i64 n] w (Gives (λu w'=>Own ig 4 46 w' w.heap.size u (jH l ⟨o,ln,b,n⟩)) w):=by
 obtain⟨A,c,rfl,_,hA⟩:=hv;obtain⟨x,hx⟩:∃x:dZ,x=⟨o,ln,b,n⟩:=⟨_,rfl⟩;have kD:=SG hok;have hkx:sD x.aC x.aG x.bin:=by rw[hx];exact xB
 have hr:=(gG.1 hok).2;have hkl:∀k,k<l.length->sD (hold l k).aC (hold l k).aG (hold l k).bin:=λk hk=>Hy hok hk
 have ho:o=x.aC:=by rw[hx]
 have hln:ln=x.aG:=by rw[hx]
 have hbb:b=x.bin:=by rw[hx]
 have hnn:n=x.n:=by rw[hx]
 rw[<- hx];subst ho hln hbb hnn;have hb0:Below w.heap.size w (w.alloc (.cells #[.int .i64 (x).aC,.int .i64 (x).aG,.int .i64 (x).bin,.int .i64 (x).n] 46)):=(aj _ _).alloc (au _) _;have Ux:=ah hkx;have hkl':=ah hkl;have hr':=ah hr;clear hx xB hkx hkl hr hok;go_enter func73,ntmps73
 go_wp2_with fail;obtain⟨W0,hW0⟩:∃W0,W0=w.alloc (.cells #[.int .i64 (x).aC,.int .i64 (x).aG,.int .i64 (x).bin,.int .i64 (x).n] 46):=⟨_,rfl⟩;have hWr:w.alloc (.cells #[.int .i64 (x).aC,.int .i64 (x).aG,.int .i64 (x).bin,.int .i64 (x).n] 46)=W0:=hW0.symm;simp only[hWr]at hb0 ⊢
 have hF:∀W,Below W0.heap.size W0 W->∀k,k<l.length->(okA A/\jd A<W.heap.size/\W.cell? ⟨jd A,ou A+k*4,none⟩=some (.int .i64 (hold l k).aC)/\W.cell? ⟨jd A,ou A+k*4+1,none⟩=some (.int .i64 (hold l k).aG)/\
   W.cell? ⟨jd A,ou A+k*4+2,none⟩=some (.int .i64 (hold l k).bin)/\W.cell? ⟨jd A,ou A+k*4+3,none⟩=some (.int .i64 (hold l k).n)):=λW hW k hk=>by
  have hB:=hb0.trans (hW.mono hb0.size);exact(hA.up hB hB.size).hold hk
 have hX:∀W,Below W0.heap.size W0 W->(w.heap.size<W.heap.size/\W.cell? ⟨w.heap.size,0,none⟩=some (.int .i64 x.aC)/\W.cell? ⟨w.heap.size,1,none⟩=some (.int .i64 x.aG)/\W.cell? ⟨w.heap.size,2,none⟩=some (.int .i64 x.bin)/\W.cell? ⟨w.heap.size,3,none⟩=some (.int .i64 x.n)):=λW hW=>by
  have hsz:w.heap.size<W0.heap.size:=by rw[hW0];simp
  exact⟨aI hsz hW.size,(hW.cell (p:=⟨w.heap.size,0,none⟩) hsz).trans (by rw[hW0];simp),(hW.cell (p:=⟨w.heap.size,1,none⟩) hsz).trans (by rw[hW0];simp),(hW.cell (p:=⟨w.heap.size,2,none⟩) hsz).trans (by rw[hW0];simp),(hW.cell (p:=⟨w.heap.size,3,none⟩) hsz).trans (by rw[hW0];simp)⟩
 have hF':=ah hF;have hX':=ah hX;have rV:w.heap.size<=W0.heap.size:=hb0.size;clear hF hX hW0 hWr hA;have hd0:(x.n==0)=xg l x 0:=by rw[(TG l x).2,uj];simp
 rw[hd0];clear hd0;go_loopw[12,13,14] (λu d i wr=>∃k:Nat,k<=l.length/\i=.int .i64 k/\d=.bool (xg l x k)/\Own ig 4 46 wr W0.heap.size u (rD l x k)/\Below W0.heap.size W0 wr) (λ_ _ i _=>l.length - (RowKit.intOf i).toNat)
 case atStart=>exact⟨0,aK _,rfl,rfl,by rw[(TG l x).1];exact Own.nil,aj _ _⟩
 case round=>
  obtain⟨k,hk,rfl,rfl,lC,hbw⟩:=hrel;have hwl:=PK l x k;by_cases hlt:k<l.length
  ·have hwl1:=PK l x (k+1);obtain⟨jr6,LG,b0,b1,b2,b3⟩:=hF'.O wr hbw k hlt;obtain⟨hBz,y0,y1,y2,y3⟩:=hX'.O wr hbw;have q0:=λo d os=>bY (w:=wr) (b:=w.heap.size) hBz o d os
   have qA:=λo d os=>bY (w:=wr) (b:=jd A) LG o d os
   cases hd:xg l x k
   ·rcases wz (fP (hold l k)) (fP x)with hp|hp|hp
    ·obtain⟨hw1,hd1⟩:=Nu hr'.O hlt hp;rw[hd]at hd1
     have Ry:=ah hw1;have N8:=ah hd1;have hp1:¬(fP x<=fP (hold l k)):=by omega
     have hnb:(fP (hold l k)!=fP x)=true:=by simp;omega
     clear hw1 hd1 hd hp;go_wp2_with fail;refine dG (by kernel_rfl) (by kernel_rfl) ?_
     repeat(go_big_quiet_step ((go_at_call 125;refine gI (Fh _ _ (by first|exact Ux.O|exact hkl'.O k hlt)))))
     refine wpQuiet_nil ?_
     intro W2 hw';have hb2:=dD hw';clear hw';have hbw2:=hbw.trans (hb2.mono hbw.size);have yh:=lC.below hb2;clear q0 qA b0 b1 b2 b3 y0 y1 y2 y3;obtain⟨jce,Td,b0,b1,b2,b3⟩:=hF'.O W2 hbw2 k hlt;obtain⟨WI,y0,y1,y2,y3⟩:=hX'.O W2 hbw2;have q0:=λo d os=>bY (w:=W2) (b:=w.heap.size) WI o d os
     have qA:=λo d os=>bY (w:=W2) (b:=jd A) Td o d os
     go_wp2_with fail;refine dG (by kernel_rfl) (by kernel_rfl) ?_
     repeat(go_big_quiet_step ((go_at_call 125;refine gI (Fh _ _ (by first|exact Ux.O|exact hkl'.O k hlt)))))
     refine wpQuiet_nil ?_
     intro W5 hw';have hb5:=dD hw';clear hw';have Jj:=hbw2.trans (hb5.mono hbw2.size);have hown5:=yh.below hb5;clear q0 qA b0 b1 b2 b3 y0 y1 y2 y3;obtain⟨jjk,joh,b0,b1,b2,b3⟩:=hF'.O W5 Jj k hlt;go_wp2_with (at_builtin;refine aW ?_)
     unfold Hid;refine lS _ rfl (.tmp 52) (.tmp 57) 28 46 rfl W0.heap.size _ 4 32 underlying28 yc rfl (by decide) (by decide) _ (rD l x k) (hold l k) rfl (hown5.alloc _) ⟨W5.heap.size,0,none⟩ 1 rfl rfl (uF _ _ _) (zu _) (by omega) (by have:=Jj.size;simp;omega) ?_
     intro v7 w7 yM LC Tc ET;have QA:=(Jj.alloc Jj.size (.cells #[.int .i64 (hold l k).aC,.int .i64 (hold l k).aG,.int .i64 (hold l k).bin,.int .i64 (hold l k).n] 46)).trans ET;go_wp2_with fail;go_roundw
     case rel=>exact⟨k+1,by omega,by go_num,by rw[N8.O],by rw[Ry.O];exact yM,QA⟩
     case measure=>simp[RowKit.intOf];omega
    ·have hw1:=jaS hlt hp hd;have hd1:=RN hlt (show fP x<=fP (hold l k)by omega)
     have Ry:=ah hw1;have N8:=ah hd1;have hnb:(fP (hold l k)!=fP x)=false:=by simp;omega
     have hp1:fP x<=fP (hold l k):=by omega
     clear hw1 hd1 hd hp;go_wp2_with fail;refine dG (by kernel_rfl) (by kernel_rfl) ?_
     repeat(go_big_quiet_step ((go_at_call 125;refine gI (Fh _ _ (by first|exact Ux.O|exact hkl'.O k hlt)))))
     refine wpQuiet_nil ?_
     intro W2 hw';have hb2:=dD hw';clear hw';have hbw2:=hbw.trans (hb2.mono hbw.size);have yh:=lC.below hb2;clear q0 qA b0 b1 b2 b3 y0 y1 y2 y3;obtain⟨jun,y0,y1,y2,y3⟩:=hX'.O W2 hbw2;go_wp2_with (at_builtin;refine aW ?_)
     unfold Hid;refine lS _ rfl (.tmp 40) (.tmp 42) 28 46 rfl W0.heap.size _ 4 32 underlying28 yc rfl (by decide) (by decide) _ (rD l x k) x rfl (yh.alloc _) ⟨W2.heap.size,0,none⟩ 1 rfl rfl (uF _ _ _) (zu x) (by omega) (by have:=hbw2.size;simp;omega) ?_
     intro v3 w3 hown3 hg3 jt1 ji2;have hbw3:=(hbw2.alloc hbw2.size (.cells #[.int .i64 (x).aC,.int .i64 (x).aG,.int .i64 (x).bin,.int .i64 (x).n] 46)).trans ji2;clear y0 y1 y2 y3;obtain⟨jce,Td,b0,b1,b2,b3⟩:=hF'.O w3 hbw3 k hlt;obtain⟨WI,y0,y1,y2,y3⟩:=hX'.O w3 hbw3;have q0:=λo d os=>bY (w:=w3) (b:=w.heap.size) WI o d os
     have qA:=λo d os=>bY (w:=w3) (b:=jd A) Td o d os
     go_wp2_with fail;refine dG (by kernel_rfl) (by kernel_rfl) ?_
     repeat(go_big_quiet_step ((go_at_call 125;refine gI (Fh _ _ (by first|exact Ux.O|exact hkl'.O k hlt)))))
     refine wpQuiet_nil ?_
     intro W5 hw';have hb5:=dD hw';clear hw';have Jj:=hbw3.trans (hb5.mono hbw3.size);have hown5:=hown3.below hb5;clear q0 qA b0 b1 b2 b3 y0 y1 y2 y3;go_wp2_with fail;go_roundw
     case rel=>exact⟨k+1,by omega,by go_num,by rw[N8.O],by rw[Ry.O];exact hown5,Jj⟩
     case measure=>simp[RowKit.intOf];omega
    ·have hw1:=XD hlt hp hd;have hd1:=RN hlt (show fP x<=fP (hold l k)by omega)
     have hwl2:(rD l x k++[x]).length<=146:=by rw[aZ];simp;omega
     have Ry:=ah hw1;have N8:=ah hd1;have hp1:fP x<=fP (hold l k):=by omega
     have hnb:(fP (hold l k)!=fP x)=true:=by simp;omega
     clear hw1 hd1 hd hp;go_wp2_with fail;refine dG (by kernel_rfl) (by kernel_rfl) ?_
     repeat(go_big_quiet_step ((go_at_call 125;refine gI (Fh _ _ (by first|exact Ux.O|exact hkl'.O k hlt)))))
     refine wpQuiet_nil ?_
     intro W2 hw';have hb2:=dD hw';clear hw';have hbw2:=hbw.trans (hb2.mono hbw.size);have yh:=lC.below hb2;clear q0 qA b0 b1 b2 b3 y0 y1 y2 y3;obtain⟨jun,y0,y1,y2,y3⟩:=hX'.O W2 hbw2;go_wp2_with (at_builtin;refine aW ?_)
     unfold Hid;refine lS _ rfl (.tmp 40) (.tmp 42) 28 46 rfl W0.heap.size _ 4 32 underlying28 yc rfl (by decide) (by decide) _ (rD l x k) x rfl (yh.alloc _) ⟨W2.heap.size,0,none⟩ 1 rfl rfl (uF _ _ _) (zu x) (by omega) (by have:=hbw2.size;simp;omega) ?_
     intro v3 w3 hown3 hg3 jt1 ji2;have hbw3:=(hbw2.alloc hbw2.size (.cells #[.int .i64 (x).aC,.int .i64 (x).aG,.int .i64 (x).bin,.int .i64 (x).n] 46)).trans ji2;clear y0 y1 y2 y3;obtain⟨jce,Td,b0,b1,b2,b3⟩:=hF'.O w3 hbw3 k hlt;obtain⟨WI,y0,y1,y2,y3⟩:=hX'.O w3 hbw3;have q0:=λo d os=>bY (w:=w3) (b:=w.heap.size) WI o d os
     have qA:=λo d os=>bY (w:=w3) (b:=jd A) Td o d os
     go_wp2_with fail;refine dG (by kernel_rfl) (by kernel_rfl) ?_
     repeat(go_big_quiet_step ((go_at_call 125;refine gI (Fh _ _ (by first|exact Ux.O|exact hkl'.O k hlt)))))
     refine wpQuiet_nil ?_
     intro W5 hw';have hb5:=dD hw';clear hw';have Jj:=hbw3.trans (hb5.mono hbw3.size);have hown5:=hown3.below hb5;clear q0 qA b0 b1 b2 b3 y0 y1 y2 y3;obtain⟨jjk,joh,b0,b1,b2,b3⟩:=hF'.O W5 Jj k hlt;go_wp2_with (at_builtin;refine aW ?_)
     unfold Hid;refine lS _ rfl (.tmp 52) (.tmp 57) 28 46 rfl W0.heap.size _ 4 32 underlying28 yc rfl (by decide) (by decide) _ (rD l x k++[x]) (hold l k) rfl (hown5.alloc _) ⟨W5.heap.size,0,none⟩ 1 rfl rfl (uF _ _ _) (zu _) (by omega) (by have:=Jj.size;simp;omega) ?_
     intro v7 w7 yM LC Tc ET;have QA:=(Jj.alloc Jj.size (.cells #[.int .i64 (hold l k).aC,.int .i64 (hold l k).aG,.int .i64 (hold l k).bin,.int .i64 (hold l k).n] 46)).trans ET;go_wp2_with fail;go_roundw
     case rel=>exact⟨k+1,by omega,by go_num,by rw[N8.O],by rw[Ry.O];exact yM,QA⟩
     case measure=>simp[RowKit.intOf];omega
   ·rcases wz (fP (hold l k)) (fP x)with hp|hp|hp
    ·obtain⟨hw1,hd1⟩:=Nu hr'.O hlt hp;rw[hd]at hd1
     have Ry:=ah hw1;have N8:=ah hd1;have hp1:¬(fP x<=fP (hold l k)):=by omega
     have hnb:(fP (hold l k)!=fP x)=true:=by simp;omega
     clear hw1 hd1 hd hp;go_wp2_with fail;refine dG (by kernel_rfl) (by kernel_rfl) ?_
     repeat(go_big_quiet_step ((go_at_call 125;refine gI (Fh _ _ (by first|exact Ux.O|exact hkl'.O k hlt)))))
     refine wpQuiet_nil ?_
     intro W2 hw';have hb2:=dD hw';clear hw';have hbw2:=hbw.trans (hb2.mono hbw.size);have yh:=lC.below hb2;clear q0 qA b0 b1 b2 b3 y0 y1 y2 y3;obtain⟨jce,Td,b0,b1,b2,b3⟩:=hF'.O W2 hbw2 k hlt;obtain⟨WI,y0,y1,y2,y3⟩:=hX'.O W2 hbw2;have q0:=λo d os=>bY (w:=W2) (b:=w.heap.size) WI o d os
     have qA:=λo d os=>bY (w:=W2) (b:=jd A) Td o d os
     go_wp2_with fail;refine dG (by kernel_rfl) (by kernel_rfl) ?_
     repeat(go_big_quiet_step ((go_at_call 125;refine gI (Fh _ _ (by first|exact Ux.O|exact hkl'.O k hlt)))))
     refine wpQuiet_nil ?_
     intro W5 hw';have hb5:=dD hw';clear hw';have Jj:=hbw2.trans (hb5.mono hbw2.size);have hown5:=yh.below hb5;clear q0 qA b0 b1 b2 b3 y0 y1 y2 y3;obtain⟨jjk,joh,b0,b1,b2,b3⟩:=hF'.O W5 Jj k hlt;go_wp2_with (at_builtin;refine aW ?_)
     unfold Hid;refine lS _ rfl (.tmp 52) (.tmp 57) 28 46 rfl W0.heap.size _ 4 32 underlying28 yc rfl (by decide) (by decide) _ (rD l x k) (hold l k) rfl (hown5.alloc _) ⟨W5.heap.size,0,none⟩ 1 rfl rfl (uF _ _ _) (zu _) (by omega) (by have:=Jj.size;simp;omega) ?_
     intro v7 w7 yM LC Tc ET;have QA:=(Jj.alloc Jj.size (.cells #[.int .i64 (hold l k).aC,.int .i64 (hold l k).aG,.int .i64 (hold l k).bin,.int .i64 (hold l k).n] 46)).trans ET;go_wp2_with fail;go_roundw
     case rel=>exact⟨k+1,by omega,by go_num,by rw[N8.O],by rw[Ry.O];exact yM,QA⟩
     case measure=>simp[RowKit.intOf];omega
    ·have hw1:=jaR hr'.O hlt hp hd;have hd1:=RN hlt (show fP x<=fP (hold l k)by omega)
     have Ry:=ah hw1;have N8:=ah hd1;have hnb:(fP (hold l k)!=fP x)=false:=by simp;omega
     have hp1:fP x<=fP (hold l k):=by omega
     clear hw1 hd1 hd hp;go_wp2_with fail;refine dG (by kernel_rfl) (by kernel_rfl) ?_
     repeat(go_big_quiet_step ((go_at_call 125;refine gI (Fh _ _ (by first|exact Ux.O|exact hkl'.O k hlt)))))
     refine wpQuiet_nil ?_
     intro W2 hw';have hb2:=dD hw';clear hw';have hbw2:=hbw.trans (hb2.mono hbw.size);have yh:=lC.below hb2;clear q0 qA b0 b1 b2 b3 y0 y1 y2 y3;obtain⟨jce,Td,b0,b1,b2,b3⟩:=hF'.O W2 hbw2 k hlt;obtain⟨WI,y0,y1,y2,y3⟩:=hX'.O W2 hbw2;have q0:=λo d os=>bY (w:=W2) (b:=w.heap.size) WI o d os
     have qA:=λo d os=>bY (w:=W2) (b:=jd A) Td o d os
     go_wp2_with fail;refine dG (by kernel_rfl) (by kernel_rfl) ?_
     repeat(go_big_quiet_step ((go_at_call 125;refine gI (Fh _ _ (by first|exact Ux.O|exact hkl'.O k hlt)))))
     refine wpQuiet_nil ?_
     intro W5 hw';have hb5:=dD hw';clear hw';have Jj:=hbw2.trans (hb5.mono hbw2.size);have hown5:=yh.below hb5;clear q0 qA b0 b1 b2 b3 y0 y1 y2 y3;go_wp2_with fail;go_roundw
     case rel=>exact⟨k+1,by omega,by go_num,by rw[N8.O],by rw[Ry.O];exact hown5,Jj⟩
     case measure=>simp[RowKit.intOf];omega
    ·have hw1:=XC hlt hp hd;have hd1:=RN hlt (show fP x<=fP (hold l k)by omega)
     have Ry:=ah hw1;have N8:=ah hd1;have hp1:fP x<=fP (hold l k):=by omega
     have hnb:(fP (hold l k)!=fP x)=true:=by simp;omega
     clear hw1 hd1 hd hp;go_wp2_with fail;refine dG (by kernel_rfl) (by kernel_rfl) ?_
     repeat(go_big_quiet_step ((go_at_call 125;refine gI (Fh _ _ (by first|exact Ux.O|exact hkl'.O k hlt)))))
     refine wpQuiet_nil ?_
     intro W2 hw';have hb2:=dD hw';clear hw';have hbw2:=hbw.trans (hb2.mono hbw.size);have yh:=lC.below hb2;clear q0 qA b0 b1 b2 b3 y0 y1 y2 y3;obtain⟨jce,Td,b0,b1,b2,b3⟩:=hF'.O W2 hbw2 k hlt;obtain⟨WI,y0,y1,y2,y3⟩:=hX'.O W2 hbw2;have q0:=λo d os=>bY (w:=W2) (b:=w.heap.size) WI o d os
     have qA:=λo d os=>bY (w:=W2) (b:=jd A) Td o d os
     go_wp2_with fail;refine dG (by kernel_rfl) (by kernel_rfl) ?_
     repeat(go_big_quiet_step ((go_at_call 125;refine gI (Fh _ _ (by first|exact Ux.O|exact hkl'.O k hlt)))))
     refine wpQuiet_nil ?_
     intro W5 hw';have hb5:=dD hw';clear hw';have Jj:=hbw2.trans (hb5.mono hbw2.size);have hown5:=yh.below hb5;clear q0 qA b0 b1 b2 b3 y0 y1 y2 y3;obtain⟨jjk,joh,b0,b1,b2,b3⟩:=hF'.O W5 Jj k hlt;go_wp2_with (at_builtin;refine aW ?_)
     unfold Hid;refine lS _ rfl (.tmp 52) (.tmp 57) 28 46 rfl W0.heap.size _ 4 32 underlying28 yc rfl (by decide) (by decide) _ (rD l x k) (hold l k) rfl (hown5.alloc _) ⟨W5.heap.size,0,none⟩ 1 rfl rfl (uF _ _ _) (zu _) (by omega) (by have:=Jj.size;simp;omega) ?_
     intro v7 w7 yM LC Tc ET;have QA:=(Jj.alloc Jj.size (.cells #[.int .i64 (hold l k).aC,.int .i64 (hold l k).aG,.int .i64 (hold l k).bin,.int .i64 (hold l k).n] 46)).trans ET;go_wp2_with fail;go_roundw
     case rel=>exact⟨k+1,by omega,by go_num,by rw[N8.O],by rw[Ry.O];exact yM,QA⟩
     case measure=>simp[RowKit.intOf];omega
  ·obtain rfl:k=l.length:=by omega
   obtain⟨hBz,y0,y1,y2,y3⟩:=hX'.O wr hbw;cases hd:xg l x l.length
   ·have bK:=ah (Zo hd);clear hd;go_wp2_with (at_builtin;refine aW ?_)
    unfold Hid;refine lS _ rfl (.tmp 61) (.tmp 63) 28 46 rfl W0.heap.size _ 4 32 underlying28 yc rfl (by decide) (by decide) _ (rD l x l.length) x rfl (lC.alloc _) ⟨wr.heap.size,0,none⟩ 1 rfl rfl (uF _ _ _) (zu x) (by omega) (by have:=hbw.size;simp;omega) ?_
    intro v9 w9 jbR je hat9 jrv;go_wp2_with fail;go_ret
    refine⟨_,rfl,?_,hb0.trans (((hbw.alloc hbw.size (.cells #[.int .i64 (x).aC,.int .i64 (x).aG,.int .i64 (x).bin,.int .i64 (x).n] 46)).trans jrv).mono rV)⟩
    rw[bK.O];exact jbR.from_ rV
   ·have bK:=ah (Zn hd);clear hd;go_wp2_with fail;go_ret
    refine⟨_,rfl,?_,hb0.trans (hbw.mono rV)⟩
    rw[bK.O];exact lC.from_ rV
end Wh
namespace Wh
open Go Go.RowKit Go.Shelf Go.Proofs Tryz
attribute [local go_sem] aT jW jm kC
theorem jjL{w:World}{aO:Nat}{V:SV}{s:aJ}(p:dA)(Ab:Option Addr)(cb:Nat)(As:Option Addr)(cs:Nat)(ho:dK w aO V s):
  ∃W0:World,((w.alloc (.cells #[.slice Ab p.bQ.length cb,.slice As p.aP.length cs] 25)).alloc (.cells #[V.on,V.ak,V.aA,V.aF,V.gY,V.O,V.bg] 31)).alloc (.cells #[.slice none 0 0,.slice none 0 0,.slice none 0 0,.slice none 0 0,.slice none 0 0,.slice none 0 0,.slice none 0 0] 31)=W0/\Below w.heap.size w W0/\
   W0.heap.size=w.heap.size+1+1+1/\iV W0 w.heap.size 25 [.slice Ab p.bQ.length cb,.slice As p.aP.length cs]/\Bx W0 aO (w.heap.size+1) 31 [] V s/\jk W0 (w.heap.size+1+1) dH:=by
 have hb1:Below w.heap.size w (w.alloc (.cells #[.slice Ab p.bQ.length cb,.slice As p.aP.length cs] 25)):=(aj _ _).alloc (au _) _;have h1:iV (w.alloc (.cells #[.slice Ab p.bQ.length cb,.slice As p.aP.length cs] 25)) w.heap.size 25 [.slice Ab p.bQ.length cb,.slice As p.aP.length cs]:=iV.new _ _ _;have h2:=iV.new (w.alloc (.cells #[.slice Ab p.bQ.length cb,.slice As p.aP.length cs] 25)) 31 #[V.on,V.ak,V.aA,V.aF,V.gY,V.O,V.bg];rw[cO]at h2
 have h3:=iV.new ((w.alloc (.cells #[.slice Ab p.bQ.length cb,.slice As p.aP.length cs] 25)).alloc (.cells #[V.on,V.ak,V.aA,V.aF,V.gY,V.O,V.bg] 31)) 31 #[.slice none 0 0,.slice none 0 0,.slice none 0 0,.slice none 0 0,.slice none 0 0,.slice none 0 0,.slice none 0 0];rw[cO,cO]at h3
 refine⟨_,rfl,(hb1.alloc (by simp) _).alloc (by simp;omega) _,by simp,(h1.alloc _).alloc _,Bx.of (h2.alloc _) (((ho.below hb1).alloc _).alloc _),h3⟩
def jjV(p:dA)(s:aJ)(o k:Nat)(n but:Int)(w:World)(aO:Nat)(V:SV)(e:Ending)(w':World):Prop:=
 ∃V',V'={V with aA:=V'.aA}/\e=.returned (.tuple #[V'.val,.int .i64 (qL p s o k n but).2])/\dK w' aO V' (qL p s o k n but).1/\Step (λj=>(V.aG o).ownBlock=some j) w w'
theorem jhl(w:World)(v:Value)(p:dA)(s:aJ)(o k:Nat)(n but:Int){aO:Nat}{V:SV}(hp:mW w w.heap.size v p)(hr:lI p s)(hm:May s o k n)(ho:dK w aO V s)(rV:aO<=w.heap.size):
  Calls prog 74 #[v,V.val,.int .i64 o,.int .i64 k,.int .i64 n,.int .i64 but] w (jjV p s o k n but w aO V):=by
 obtain⟨Ab,cb,As,cs,rfl,hP',hBn,hSz,hlb,hls⟩:=sN hp;change Calls prog 74 #[.agg #[.slice Ab p.bQ.length cb,.slice As p.aP.length cs],.agg #[V.on,V.ak,V.aA,V.aF,V.gY,V.O,V.bg],.int .i64 o,.int .i64 k,.int .i64 n,.int .i64 but] w _;obtain⟨gl,cl,curl,e1,hgl,Cc,_⟩:=ho.gK hm.ho hm.hk;have hll:=Cc.lt;go_enter func74,ntmps74
 go_wp2_with fail;obtain⟨W0,hW0,hb0,hsE,hpl,hB0,hres⟩:=jjL p Ab cb As cs ho;rw[hW0];clear hW0 Cc;have y0:=hpl.cell (j:=0) rfl;have y1:=hpl.cell (j:=1) rfl;go_wp2_with fail;refine(jmN _ _ p (hP'.O _ hb0) (by have:=hr.sane.counts;omega)).mono ?_
 rintro e W1 ⟨uw,rfl,Wn,h1⟩;obtain⟨Aw,cw,rfl⟩:=Wn.isSlice;rw[CV]at Wn ⊢
 have hB1:=ah (hB0.below h1);obtain⟨jtL,f0,_,_,_⟩:=hB1.O.own.sV hm.ho hm.hk e1;obtain⟨go,co,jjB,eo,hgo,Ob,z0,z1⟩:=hB1.O.own.aU hm.ho;obtain⟨c0,c1,c2,c3,c4,c5,c6⟩:=hB1.O.cells;rw[eo]at c1
 rw[e1]at z1
 have hon:(o:Int)<(s.ak.length:Int):=by have:=hm.ho;omega
 have hkn:(k:Int)<((s.aC o).aH.length:Int):=by have:=hm.hk;omega
 have hm':=ah hm;have hr':=ah hr;have jbK:=ah Wn;have jqR:=ah (hres.below h1 hres.lt);have hlw:(way p).length<=6:=by rw[U8];exact hr.sane.counts.2.1
 have hl0:=h1.size;clear hm hr Wn hB0 y0 y1 hP' hBn hSz hpl hres;go_wp2_with fail;clear c0 c1 c2 c3 c4 c5 c6 z0 z1 f0 jtL eo Ob;go_loopw[16,4,17,18] (λi n' _ _ wr=>∃(j:Nat) (s':aJ) (m:Int) (V':SV),V'={V with aA:=V'.aA}/\j<=(way p).length/\i=.int .i64 j/\n'=.int .i64 m/\lI p s'/\May s' o k m/\uo o k but ((way p).drop j) s' m=qL p s o k n but/\
  Bx wr aO (w.heap.size+1) 31 [] V' s'/\(s'.aG o k).dh=(s.aG o k).dh/\Step (λj=>j=w.heap.size+1\/(V.aG o).ownBlock=some j) W1 wr) (λi _ _ _ _=>(way p).length - (RowKit.intOf i).toNat)
 case atStart=>exact⟨0,s,n,V,rfl,aK _,rfl,rfl,hr'.O,hm'.O,rfl,hB1.O,rfl,Step.refl _ _⟩
 case round=>
  clear hr' hm' hB1;obtain⟨j,s',m,V',hsb,hj,rfl,rfl,hr,hm,htg,hBx,hgd,hst⟩:=hrel;have hr':=ah hr;have hm':=ah hm;have jh8:=ah htg;have jel:=ah hBx;have hst':=ah hst;have hgd':=ah hgd;have hks:=ah (show ∀j,(j=w.heap.size+1\/(V.aG o).ownBlock=some j)->j<=w.heap.size+1 from λj h=>by
   rcases h with rfl|h
   ·omega
   ·rw[e1]at h
    change some gl=some j at h
    injection h with h
    omega)
  by_cases hlt:j<(way p).length
  ·have hwb:=I4 p _ (bU hlt);have hwr:=jbK.O.step hst (λk hk jnD=>absurd (hks.O k jnD) (by have:=(jbK.O.size k hk).1;omega))
   obtain⟨gw,cw',juI,ew,hgw,hbw,zw⟩:=dK.BF hwr (g:=j) (by rw[CV];exact hlt)
   rw[ZM hlt]at zw
   obtain⟨wb,jdO⟩:∃x,x=(way p)[j]:=⟨_,rfl⟩;rw[<- jdO]at zw hwb
   have jh5:=ah jdO;clear jdO;obtain rfl:Aw=some ⟨gw,0,none⟩:=by injection ew
   clear ew;have hgood:=ah (hr.sane.aG hm.ho hm.hk);have hjl:(j:Int)<((way p).length:Int):=by omega
   have hr2:=ah hr.sane;have hbb:=ah (show 0<=(wb:Int)/\(wb:Int)<p.bQ.length by omega)
   have Rz:=ah hsb;have hdr:uo o k but (wb::(way p).drop (j+1)) s' m=qL p s o k n but:=by rw[jh5.O,<- drop_at hlt];exact jh8.O
   have hdr':=ah hdr;obtain⟨c0,c1,c2,c3,c4,c5,c6⟩:=hBx.cells;clear hr hm htg hBx hst hwr hbw hsb hdr hgd;by_cases Pz:(wb:Int)=but
   ·have hq:((wb:Int)==but)=true:=by simpa using Pz
    have XW:=ah (show uo o k but ((way p).drop (j+1)) s' m=qL p s o k n but by rw[<- hdr'.O,zn (.inl Pz)])
    clear Pz;go_wp2_with fail;go_roundw
    case rel=>exact⟨j+1,s',m,V',Rz.O,by omega,by go_num,rfl,hr'.O,hm'.O,XW.O,jel.O,hgd'.O,hst'.O⟩
    case measure=>simp[RowKit.intOf];omega
   ·have hq:((wb:Int)==but)=false:=by simpa using Pz
    have jrm:=ah Pz;clear Pz;go_wp2_with fail;clear c0 c1 c2 c3 c4 c5 c6 zw;refine(jbe _ _ p s' wb (s.aG o k).dh (jel.O.own.view hr2.O) hr2.O hbb.O (by rw[<- hgd'.O];exact hgood.O.1)).mono ?_
    rintro e W6 ⟨rfl,hb6⟩;obtain⟨mm,hmm⟩:∃x,(if lU s' ↑wb (s.aG o k).dh<m then lU s' ↑wb (s.aG o k).dh else m)=x:=⟨_,rfl⟩
    have hmin:mm=min m (lU s' wb (s'.aG o k).dh):=by rw[<- hmm,hgd'.O];split<;>omega
    have hav:=hm'.O.lU hr'.O hwb;have hmb:=hm'.O.dP;have hm0:=hm'.O.n0;have hgb:=hgood.O;have hmr:mm<=m/\m<=200/\0<=mm/\mm<=lU s' wb (s'.aG o k).dh:=by omega
    have hbr:0<=(s'.aG o k).dP/\(s'.aG o k).dP<=200:=by omega
    have NW:=ah (hst'.O.trans (.of_below hb6));have hBx6:=ah (jel.O.below hb6);have hmin':=ah hmin;have jkT:=ah hmr;clear hmin hav hmb hm0 hgb hmr;by_cases hge:1<=mm
    ·have hge0:0<mm:=by omega
     have hfit:=ah (hm'.O.fits hwb hge jkT.O.1 jkT.O.2.2.2);have XW:=ah (show uo o k but ((way p).drop (j+1)) (tZ s' o k wb mm) (m - mm)=qL p s o k n but by rw[<- hdr'.O,F8 jrm.O (by rw[<- hmin'.O];exact hge),<- hmin'.O])
     have kD:=su hr2.O.aA;have jed:aO<=W6.heap.size:=aY rV (aY hb0.size (aY hl0 (aY hst'.O.size hb6.size)));have hkr:=La hr'.O hfit.O;have hw0:IntKind.i64.wrap (bW s'.aA o k wb+mm)=bW s'.aA o k wb+mm:=aN _ (by omega)
     go_wp2_with fail;clear hmm;refine qZ 15 [λgq _=>gq 52=.pointer (some ⟨w.heap.size+1,2,none⟩),λgq _=>gq 53=V'.aA,λgq _=>gq 54=.int .i64 o,λgq _=>gq 55=.int .i64 k,λgq _=>gq 56=.int .i64 wb,λgq _=>gq 57=.pointer (some ⟨w.heap.size+1,2,none⟩),λgq _=>gq 58=V'.aA,λgq _=>gq 59=.int .i64 o,λgq _=>gq 60=.int .i64 k,λgq _=>gq 61=.int .i64 wb,λgq w'=>(λv w'=>v=.int .i64 (bW s'.aA o k wb)) (gq 62) w',λgq _=>gq 63=.int .i64 mm,λgq _=>gq 64=.int .i64 (bW s'.aA o k wb+mm),λgq w'=>(λv w'=>Own ig 4 46 w' W6.heap.size v (tZ s' o k wb mm).aA) (gq 65) w',λgq _=>gq 66=.pointer (some ⟨w.heap.size+1,2,none⟩)] (by kernel_rfl) (by kernel_rfl) rfl (by kernel_rfl) ?_ (λf w2 hb2 hR=>?_)
     simp only[bC,bV];refine dX.cons (iR.val rfl rfl (λgq w' hb ho hd=>?_)) ?_
     ·have e7:=ho 7 rfl;go_simp
     refine dX.cons (iR.val rfl rfl (λgq w' hb ho hd=>?_)) ?_
     ·have e52:gq 52=.pointer (some ⟨w.heap.size+1,2,none⟩):=hd ⟨0,.data⟩ (by simp) rfl (by decide)
      have x2:=(hBx6.O.below hb).cells.2.2.1;go_simp
     refine dX.cons (iR.val rfl rfl (λgq w' hb ho hd=>?_)) ?_
     ·have e2:=ho 2 rfl;go_simp
     refine dX.cons (iR.val rfl rfl (λgq w' hb ho hd=>?_)) ?_
     ·have e3:=ho 3 rfl;go_simp
     refine dX.cons (iR.val rfl rfl (λgq w' hb ho hd=>?_)) ?_
     ·have e17:=ho 17 rfl;go_simp
     refine dX.cons (iR.val rfl rfl (λgq w' hb ho hd=>?_)) ?_
     ·have e7:=ho 7 rfl;go_simp
     refine dX.cons (iR.val rfl rfl (λgq w' hb ho hd=>?_)) ?_
     ·have e57:gq 57=.pointer (some ⟨w.heap.size+1,2,none⟩):=hd ⟨5,.data⟩ (by simp) rfl (by decide)
      have x2:=(hBx6.O.below hb).cells.2.2.1;go_simp
     refine dX.cons (iR.val rfl rfl (λgq w' hb ho hd=>?_)) ?_
     ·have e2:=ho 2 rfl;go_simp
     refine dX.cons (iR.val rfl rfl (λgq w' hb ho hd=>?_)) ?_
     ·have e3:=ho 3 rfl;go_simp
     refine dX.cons (iR.val rfl rfl (λgq w' hb ho hd=>?_)) ?_
     ·have e17:=ho 17 rfl;go_simp
     refine dX.cons (iR.one (d:=62) (p:=(λv w'=>v=.int .i64 (bW s'.aA o k wb))) rfl rfl (λv w1 w2 h hb=>h) (λgq w' hb ho hd=>?_)) ?_
     ·have e58:gq 58=V'.aA:=hd ⟨6,.data⟩ (by simp) rfl (by decide)
      have e59:gq 59=.int .i64 o:=hd ⟨7,.data⟩ (by simp) rfl (by decide)
      have e60:gq 60=.int .i64 k:=hd ⟨8,.data⟩ (by simp) rfl (by decide)
      have e61:gq 61=.int .i64 wb:=hd ⟨9,.data⟩ (by simp) rfl (by decide)
      have hs:=(hBx6.O.below hb).own.aA.sl (by omega)
      unfold iT;go_simp
      refine(Zy w' _ s'.aA o k wb hs).mono ?_
      rintro e w2 ⟨rfl,rfl⟩;exact⟨_,rfl,rfl,aj _ _⟩
     refine dX.cons (iR.val rfl rfl (λgq w' hb ho hd=>?_)) ?_
     ·have e18:=ho 18 rfl;go_simp
     refine dX.cons (iR.val rfl rfl (λgq w' hb ho hd=>?_)) ?_
     ·have e62:(gq 62)=.int .i64 (bW s'.aA o k wb):=hd ⟨10,.data⟩ (by simp) rfl (by decide)
      have e63:gq 63=.int .i64 mm:=hd ⟨11,.data⟩ (by simp) rfl (by decide)
      go_simp
     refine dX.cons (iR.one (d:=65) (p:=(λv w'=>Own ig 4 46 w' W6.heap.size v (tZ s' o k wb mm).aA)) rfl rfl (λv w1 w2 h hb=>h.below hb) (λgq w' hb ho hd=>?_)) ?_
     ·have e53:gq 53=V'.aA:=hd ⟨1,.data⟩ (by simp) rfl (by decide)
      have e54:gq 54=.int .i64 o:=hd ⟨2,.data⟩ (by simp) rfl (by decide)
      have e55:gq 55=.int .i64 k:=hd ⟨3,.data⟩ (by simp) rfl (by decide)
      have e56:gq 56=.int .i64 wb:=hd ⟨4,.data⟩ (by simp) rfl (by decide)
      have e64:gq 64=.int .i64 (bW s'.aA o k wb+mm):=hd ⟨12,.data⟩ (by simp) rfl (by decide)
      have hs:=(hBx6.O.below hb).own.aA.sl (by omega)
      unfold iT;go_simp
      refine(jhj w' _ s'.aA o k wb _ hs hr2.O.aA (Jg hr2.O hm'.O.ho hm'.O.hk hwb)).mono ?_
      rintro e w2 ⟨u,rfl,hu,hb2⟩;exact⟨u,rfl,hu.from_ hb.size,hb2⟩
     refine dX.cons (iR.val rfl rfl (λgq w' hb ho hd=>?_)) ?_
     ·have e7:=ho 7 rfl;go_simp
     exact dX.nil;obtain⟨r52,r53,r54,r55,r56,r57,r58,r59,r60,r61,r62,r63,r64,r65,r66,_⟩:=hR;replace r62:(f 62)=.int .i64 (bW s'.aA o k wb):=r62;replace r65:Own ig 4 46 w2 W6.heap.size (f 65) (tZ s' o k wb mm).aA:=r65;simp only[kG,zB,bC,bV,eG,gW,eX,fF,fB,gV,bM,dF,dL,r52,r53,r54,r55,r56,r57,r58,r59,r60,r61,r62,r63,r64,r66];clear r52 r53 r54 r55 r56 r57 r58 r59 r60 r61 r62 r63 r64 r66;obtain⟨A7,c7,hv7⟩:=r65.isSlice;rw[hv7]at r65
     simp only[hv7];have FV:=ah (hBx6.O.below hb2);have hu7:=ah (r65.from_ jed);clear r65 hv7;refine GV rfl (.tmp 66) (.tmp 65) rfl rfl A7 _ c7 _ FV.O rfl rfl hu7.O (λw8 Jm AX=>?_)
     refine fC ?_
     have hv8:V'.aG o=.slice (some ⟨gl,0,none⟩) (s.aC o).aH.length cl:=by rw[Rz.O];exact e1
     obtain⟨jrc,f0,f1,f2,f3⟩:=Jm.own.sV (s:={s' with aA:=(tZ s' o k wb mm).aA}) hm'.O.ho hm'.O.hk hv8
     obtain⟨go8,co8,curo8,eo8,hgo8,jnV,z0,z1⟩:=Jm.own.aU (s:={s' with aA:=(tZ s' o k wb mm).aA}) hm'.O.ho
     obtain⟨c0,c1,c2,c3,c4,c5,c6⟩:=Jm.cells;rw[eo8]at c1
     have z1':w8.cell? ⟨go8,o*2+1,none⟩=some (V'.aG o):=z1;rw[hv8]at z1'
     have hon8:(o:Int)<(s'.ak.length:Int):=by have:=hm'.O.ho;omega
     have hkn8:(k:Int)<((s.aC o).aH.length:Int):=by omega
     have Oh:=ah Jm;have hw1:IntKind.i64.wrap ((s'.aG o k).dP - mm)=(s'.aG o k).dP - mm:=aN _ (by omega)
     have hw2:IntKind.i64.wrap (m - mm)=m - mm:=aN _ (by have:=jkT.O;omega)
     have f3':w8.cell? ⟨gl,k*4+3,none⟩=some (.int .i64 (s'.aG o k).dP):=f3;have js7:=ah hv8;clear Jm f0 f1 f2 f3 z0 z1 c0 c2 c3 c4 c5 c6 eo8 jnV hv8 hw0;go_wp2_with fail;go_still_tail 21,(by kernel_rfl)
     change wpList _ _ _ _ _ w8.drew;refine AO rfl (.tmp 87) (.tmp 85) rfl rfl (j:=3) (y:={s'.aG o k with dP:=(s'.aG o k).dP - mm}) Oh.O.drew hm'.O.ho hm'.O.hk js7.O (by decide) rfl rfl rfl (λw9 jjh wJ=>?_)
     refine fC ?_
     have jjg:=ah (show Bx w9 aO (w.heap.size+1) 31 [] {V' with aA:=.slice A7 (tZ s' o k wb mm).aA.length c7} (tZ s' o k wb mm)from jjh)
     have jid:=ah (((NW.O.trans (.of_below hb2)).trans (AX.mono λ_ h=>.inl h)).trans ((Step.of_below (aj _ _).drew).trans (wJ.mono λq hq=>.inr (by rw[hq,e1];rfl))))
     have jtO:=ah (show((tZ s' o k wb mm).aG o k).dh=(s.aG o k).dh by rw[(Em hfit.O o k).1];exact hgd'.O)
     clear f3' jjh wJ AX c1 z1';go_wp2_with fail;go_roundw
     case rel=>exact⟨j+1,tZ s' o k wb mm,m - mm,_,show _=_ by rw[Rz.O],by omega,by go_num,rfl,NY hr'.O hfit.O,hm'.O.held (Held.one hr'.O hfit.O) jkT.O.1,XW.O,jjg.O,jtO.O,jid.O⟩
     case measure=>simp[RowKit.intOf];omega
    ·have hle0:¬ 0<mm:=by omega
     have XW:=ah (show uo o k but ((way p).drop (j+1)) s' m=qL p s o k n but by rw[<- hdr'.O,zn (.inr (by rw[<- hmin'.O];omega))])
     clear hge;go_wp2_with fail;clear hmm;go_roundw
     case rel=>exact⟨j+1,s',m,V',Rz.O,by omega,by go_num,rfl,hr'.O,hm'.O,XW.O,hBx6.O,hgd'.O,NW.O⟩
     case measure=>simp[RowKit.intOf];omega
  ·obtain rfl:j=(way p).length:=by omega
   have bK:=ah (show(s',m)=qL p s o k n but by rw[<- jh8.O,wS];rfl)
   have Rz:=ah hsb;obtain⟨c0,c1,c2,c3,c4,c5,c6⟩:=hBx.cells;have jl6:jk wr (w.heap.size+1+1) dH:=hst.blk jqR.O.blk (λh=>by have:=hks.O _ h;omega)
   have hone:=hBx.own.one;clear hr hm htg hBx hst hsb;go_wp2_with (refine dB (.tmp 12) (.tmp 91) dH V' rfl jl6 rfl hone (λw9 dM je=>?_))
   have wC:=jel.O.own.keptBy je jl6.blk (by decide) (by decide) (by decide) (by decide) (by decide) (by decide)
   obtain⟨p0,p1,p2,p3,p4,p5,p6⟩:=dM.cells;have dN:Step (λj=>(V.aG o).ownBlock=some j) w w9:=
    ((Step.of_below (hb0.trans (h1.mono hb0.size))).trans' hst'.O (λq hq h=>h.resolve_left (by omega))).trans' (Step.jR (ks:=λq=>q=w.heap.size+1+1) je (λq hq=>by injection hq with hq;exact hq.symm)) (λq hq h=>by omega)
   clear c0 c1 c2 c3 c4 c5 c6;go_wp2_with fail;exact fD (v:=.tuple #[V'.val,.int .i64 m]) (by simp[results,results74,go_sem,SV.val,p0,p1,p2,p3,p4,p5,p6]) rfl ⟨V',Rz.O,by rw[<- bK.O],by rw[<- bK.O];exact wC,dN⟩
end Wh
