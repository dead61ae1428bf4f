/- Texts of the claim, joined. -/
import Derived.StillTailTactics
import Derived.Test.YtniaecolikhmeaaGreatDoorQ27
import Derived.Test.YtniaecolikhmeaaGreatDoorQ19
set_option maxHeartbeats 20000000
set_option maxRecDepth 100000
set_option linter.all false
namespace Wh
open Go Go.RowKit Go.Shelf Go.Proofs Tryz
section
attribute [local go_sem] aV jF iY jI
theorem dX.oQ{w:World}{aT:Nat}{V:SV}{s:aI}(h:dX w aT V s){o:Nat}(ho:o<s.ak.length){go n c:Nat}(hv:V.ak=.slice (some go) n c):aT<=go/\go<w.heap.size/\
  w.cell? ⟨go,o*2,none⟩=some (.int .i64 (s.aC o).eH)/\w.cell? ⟨go,o*2+1,none⟩=some (V.aK o):=by
 obtain⟨g',c',cur,e1,h2,h3,z0,z1⟩:=h.bK ho;rw[hv]at e1
 injection e1 with e1
 injection e1 with e1
 injection e1 with e1
 subst e1;exact⟨h2,h3.lt,z0,z1⟩
theorem dX.Ey{w:World}{aT:Nat}{V:SV}{s:aI}(h:dX w aT V s){o:Nat}(ho:o<s.ak.length)(hl:0<(s.aC o).aH.length):∃gl c,V.aK o=.slice (some ⟨gl,0,none⟩) (s.aC o).aH.length c/\aT<=gl:=by
 obtain⟨g,c,cur,e1,h2,_⟩:=h.fG ho hl;exact⟨g,c,e1,h2⟩
theorem dX.IB{w:World}{aT:Nat}{V:SV}{s:aI}(h:dX w aT V s):∃A c,V.ak=.slice A s.ak.length c:=by
 obtain⟨A,c,e⟩:=h.ak.isSlice;exact⟨A,c,by rw[e,vg h.llen]⟩
theorem Ws{V9 V V5:SV}(h:V9={V with aA:=V9.aA})(h':V={V5 with aA:=V.aA}):V9={V5 with aA:=V9.aA}:=by
 rw[h']at h
 exact h
theorem jgx(w:World)(v vs:Value)(p:dG)(s:aI)(hp:kK w w v p)(hv:kG w w vs s):
  Calls prog 63 #[v,vs] w (nN (zO p s) w):=by
 obtain⟨Ab,cb,As,cs,rfl,hP',hBn,hSz,hlb,hls⟩:=o9 hp;obtain⟨A0,c0,A1,c1,A2,c2,A3,c3,A4,c4,A5,c5,A6,c6,rfl,hV,hN,hO,hH,hM,hI,hU,hX,hl0,hl1,hl2,hl3,hl4,hl5,Jb⟩:=lY hv;go_enter func63,ntmps63
 go_wp2_with fail;obtain⟨W0,hW0,hb0,kX,um,hsE,hK,hR⟩:=yS w p s Ab cb As cs A0 c0 A1 c1 A2 c2 A3 c3 A4 c4 A5 c5 A6 c6;rw[hW0];clear hW0;obtain⟨⟨y0,y1⟩,x0,x1,x2,x3,x4,x5,x6,fB,fC⟩:=hK.O W0 (aj W0 W0);go_wp2_with fail;clear y0 y1 x0 x1 x2 x3 x4 x5 x6 fB fC;refine(Nh _ _ _ p s (hP'.O _ hb0) (hV.O _ hb0)).mono ?_
 rintro e W1 ⟨rfl,h1⟩;have hB1:=fD hb0 h1;obtain⟨⟨y0,y1⟩,x0,x1,x2,x3,x4,x5,x6,fB,fC⟩:=hK.O W1 (h1);by_cases hc:aO p s=0
 ·have hc':=ah hc;have hsn:=ah (gB.1 hc).1;have dw:=ah (WG hc);have h4:=hsn.O.nX;rw[hc];clear hc;go_wp2_with fail;clear y0 y1 x0 x1 x2 x3 x4 x5 x6 fB fC;refine(jbV _ _ p s (hV.O _ hB1) hsn.O).mono ?_
  rintro e W5 ⟨_,rfl,⟨V5,rfl,DC⟩,h5⟩;have rU:=(DC).one;have zV:=Dj (W5);go_wp2_with (refine dU (.tmp 7) (.tmp 22) dV V5 rfl zV rfl rU (λw6 nK Jv=>?_);refine bD ?_)
  unfold Hid;have vG:=xg Jv;have x9:=nK.lt;clear rU zV Jv;have hx6:=ah (Bx.of nK (DC.below vG));have h06:=h1.trans ((fD h5 vG).mono h1.size);have hle:w.heap.size<=W1.heap.size:=hB1.size;have hle0:W0.heap.size<=W1.heap.size:=h1.size;have Bl:W1.heap.size<=W5.heap.size:=h5.size;clear nK DC vG h5 x9 h1 hB1;generalize W1.heap.size=aT at hx6 hle hle0 Bl
  generalize W5.heap.size=bx at hx6 Bl ⊢
  obtain⟨Ao,co,TM⟩:=hx6.O.own.IB;have H7:=ah TM;have c1:=hx6.O.cells.2.1;rw[TM]at c1
  clear TM;go_wp2_with fail;clear c1;go_loopw[26,8,9,10] (λi _ _ _ wr=>∃n:Nat,n<=s.ak.length/\i=.int .i64 n/\Bx wr aT bx 40 [] V5 (uh s n)/\Below W0.heap.size W0 wr) (λi _ _ _ _=>s.ak.length - (RowKit.intOf i).toNat)
  case atStart=>exact⟨0,aN _,rfl,by rw[U0];exact hx6.O,h06⟩
  case round=>
   clear hx6 h06;obtain⟨n,hn,rfl,hx,h0⟩:=hrel;have hx':=ah hx;clear hx;by_cases hlt:n<s.ak.length
   ·have hni:(n:Int)<(s.ak.length:Int):=by omega
    have MH:n<(uh s n).ak.length:=by rw[FB];exact hlt
    have l13:=hsn.O.rE hlt;obtain⟨go,_,_,eo,-⟩:=hx'.O.own.bK MH;rw[H7.O]at eo
    injection eo with eo e2 e3
    subst eo;clear e2 e3;obtain⟨hgo,jhf,z0,z1⟩:=hx'.O.own.oQ MH H7.O;rw[Jy hlt]at z0
    have c1:=hx'.O.cells.2.1;rw[H7.O]at c1
    clear MH;by_cases hk:(s.aC n).eH=0
    ·have hq:((s.aC n).eH==0)=true:=by simpa using hk
     have hk':=ah hk;clear hk;go_wp2_with (refine Hf rfl (.tmp 40) (.const (.int .i64 1)) rfl rfl (i:=n) (q:=1) hx'.O (by rw[FB];exact hlt) H7.O rfl rfl (λw7 hx7 Dy=>?_);refine bD ?_)
     unfold Hid;rw[U3 hlt]at hx7
     have h07:=h0.trans (Dy.below (B:=W0.heap.size) (λq hq=>by omega) h0.size)
     have zT:=ah hx7;clear Dy hx7 z0 z1 c1 hq hx';obtain⟨_,_,z0,z1⟩:=zT.O.own.oQ (by rw[Kr];exact hlt) H7.O
     obtain⟨gl,cl,e1,hgl⟩:=zT.O.own.Ey (o:=n) (by rw[Kr];exact hlt) (by rw[EF hlt];omega)
     rw[EF hlt]at e1
     have e1':=ah e1;rw[e1]at z1
     clear e1 z0;go_wp2_with fail;clear z1;go_loopw[46,10] (λi _ wr=>∃k:Nat,k<=(s.aC n).aH.length/\i=.int .i64 k/\Bx wr aT bx 40 [] V5 (Ej s n k)/\Below W0.heap.size W0 wr) (λi _ _=>(s.aC n).aH.length - (RowKit.intOf i).toNat)
     case atStart=>exact⟨0,aN _,rfl,zT.O,h07⟩
     case round=>
      clear zT h07 h0;obtain⟨k,hkl,rfl,hx,h0⟩:=hrel;have hx':=ah hx;clear hx;by_cases hkt:k<(s.aC n).aH.length
      ·have hki:(k:Int)<((s.aC n).aH.length:Int):=by omega
       have hon:n<(Ej s n k).ak.length:=by rw[Kr];exact hlt
       have hkn:k<((Ej s n k).aC n).aH.length:=by rw[EF hlt];exact hkt
       obtain⟨_,_,_,z1⟩:=hx'.O.own.oQ hon H7.O;rw[e1'.O]at z1
       obtain⟨YR,f0,f1,f2,f3⟩:=hx'.O.own.tJ hon hkn e1'.O;rw[Lm hlt hkt]at f1
       have Xr:=ah hx'.O.drew;clear f0 f2 f3;go_wp2_with fail;go_still_tail 15,(by kernel_rfl)
       change wpList _ _ _ _ _ wr.drew;refine BO rfl (.tmp 63) (.tmp 61) rfl rfl (j:=3) (y:={s.aK n k with eU:=(s.aK n k).jk}) Xr.O hon hkn e1'.O (by decide) (by rw[Lm hlt hkt];rfl) rfl rfl (λw9 Gq uQ=>?_)
       refine eP ?_
       rw[U4 hlt hkt]at Gq
       have h09:=h0.drew.trans (uQ.below (B:=W0.heap.size) (λq hq=>by omega) h0.drew.size)
       have Eh:=ah Gq;clear uQ Gq z1 f1 hx' Xr hon hkn;go_wp2_with fail;go_roundw
       case rel=>exact⟨k+1,by omega,by go_num,Eh.O,h09⟩
       case measure=>simp[dY];omega
      ·obtain rfl:k=(s.aC n).aH.length:=by omega
       have hx2:=ah (show Bx wr aT bx 40 [] V5 (uh s (n+1))by rw[<- XU hlt hk'.O];exact hx'.O)
       go_wp2_with fail;go_roundw
       case rel=>exact⟨n+1,by omega,by go_num,hx2.O,h0⟩
       case measure=>simp[dY];omega
    ·have hq:((s.aC n).eH==0)=false:=by simpa using hk
     have hx2:=ah (show Bx wr aT bx 40 [] V5 (uh s (n+1))by rw[U2 hlt hk];exact hx'.O)
     clear hk;go_wp2_with fail;go_roundw
     case rel=>exact⟨n+1,by omega,by go_num,hx2.O,h0⟩
     case measure=>simp[dY];omega
   ·obtain rfl:n=s.ak.length:=by omega
    have hx6:=ah (show Bx wr aT bx 40 [] V5 (jM p 0 (mW s))by rw[<- XT];exact hx'.O)
    have c1:=hx'.O.cells.2.1;rw[H7.O]at c1
    clear hx';go_wp2_with fail;clear c1;have h06:=h0;clear h0;go_loopw[69,11,12,13] (λi _ _ _ wr=>∃(n:Nat) (V:SV),V={V5 with aA:=V.aA}/\n<=s.ak.length/\i=.int .i64 n/\Bx wr aT bx 40 [] V (jM p n (mW s))/\Below W0.heap.size W0 wr) (λi _ _ _ _=>s.ak.length - (RowKit.intOf i).toNat)
    case atStart=>exact⟨0,V5,rfl,aN _,rfl,hx6.O,h06⟩
    case round=>
     clear hx6 h06;obtain⟨n,V,ZP,hn,rfl,hx,h0⟩:=hrel;have hx':=ah hx;have Qe:=ah (show V.ak=.slice Ao s.ak.length co by rw[ZP];exact H7.O)
     have LQ:=ah ZP;clear hx ZP;by_cases hlt:n<s.ak.length
     ·have hni:(n:Int)<(s.ak.length:Int):=by omega
      have l13:=hsn.O.rE hlt;obtain⟨hrt,lZ,Ja⟩:=Nj (p:=p) hc'.O hn;have MH:n<(jM p n (mW s)).ak.length:=by rw[lZ];exact hlt
      have hln:=Ja n hlt;obtain⟨go,_,_,eo,-⟩:=hx'.O.own.bK MH;rw[Qe.O]at eo
      injection eo with eo e2 e3
      subst eo;clear e2 e3;obtain⟨hgo,jhf,z0,z1⟩:=hx'.O.own.oQ MH Qe.O;obtain⟨gl,cl,e1,hgl⟩:=hx'.O.own.Ey MH (by rw[hln];omega)
      rw[hln]at e1
      rw[e1]at z1
      have e1':=ah e1;have hl0:=ah h0;generalize hkd:((jM p n (mW s)).aC n).eH=kd at z0
      have Uh:=ah hkd;clear hkd hrt lZ Ja MH hln e1;by_cases hk:kd=1
      ·subst hk;have Qu:=h0.alloc h0.size (.cells #[.int .i64 1,.slice (some gl) (s.aC n).aH.length cl] 114);have hxa:=ah (hx'.O.below ((aj wr wr).alloc (ay _) (.cells #[.int .i64 1,.slice (some gl) (s.aC n).aH.length cl] 114)));go_wp2_with fail;clear z0 z1 h0 hl0 hx';generalize wr.heap.size=wo;generalize wr.alloc (.cells #[.int .i64 1,.slice (some gl) (s.aC n).aH.length cl] 114)=wa at Qu hxa ⊢
       go_loopw[80,13] (λi _ wr=>∃(k:Nat) (V:SV),V={V5 with aA:=V.aA}/\k<=(s.aC n).aH.length/\i=.int .i64 k/\Bx wr aT bx 40 [] V (EZ p s n k)/\Below W0.heap.size W0 wr) (λi _ _=>(s.aC n).aH.length - (RowKit.intOf i).toNat)
       case atStart=>exact⟨0,V,LQ.O,aN _,rfl,hxa.O,Qu⟩
       case round=>
        clear hxa Qu Qe LQ e1' V;obtain⟨k,V,ZP,hkl,rfl,hx,h0⟩:=hrel;have hx':=ah hx;have Qe:=ah (show V.ak=.slice (some go) s.ak.length co by rw[ZP];exact H7.O)
        have LQ:=ah ZP;clear hx ZP;by_cases hkt:k<(s.aC n).aH.length
        ·have hki:(k:Int)<((s.aC n).aH.length:Int):=by omega
         obtain⟨hrt,lZ,_,hln⟩:=Nk hc'.O hlt Uh.O hkl;have hmay:=ah (jb2 hc'.O hlt Uh.O hkt);have jcP:=ah hrt;have hon:n<(EZ p s n k).ak.length:=by rw[lZ];exact hlt
         have hkn:k<((EZ p s n k).aC n).aH.length:=by rw[hln];exact hkt
         obtain⟨_,_,_,z1⟩:=hx'.O.own.oQ hon Qe.O;obtain⟨gl2,cl2,e1,jr2⟩:=hx'.O.own.Ey hon (by rw[hln];omega)
         rw[hln]at e1
         rw[e1]at z1
         obtain⟨YR,f0,f1,f2,f3⟩:=hx'.O.own.tJ hon hkn e1;have c1:=hx'.O.cells.2.1;rw[Qe.O]at c1
         have hxd:=ah hx'.O.drew;have hBd:=hb0.trans (h0.drew.mono hb0.size);have e1':=ah e1;obtain⟨⟨y0,y1⟩,x0,x1,x2,x3,x4,x5,x6,fB,fC⟩:=hK.O wr (h0);clear f0 f1 f2 hrt lZ hln hon hkn e1 x0 x1 x2 x3 x4 x5 x6 fB;go_wp2_with fail;go_still_tail 13,(by kernel_rfl)
         change wpList _ _ _ _ _ wr.drew;clear y0 y1 fC z1 f3 c1;go_wp2_with fail;refine(jfG wr.drew _ p (EZ p s n k) n k _ (-1) (hP'.O _ hBd) jcP.O hmay.O hxd.O (by have:=h0.size;show aT<=wr.heap.size;omega)).mono ?_
         rintro e w9 ⟨rfl,V9,hV9,Gq,uQ⟩;have h09:=h0.drew.trans (uQ.below (B:=W0.heap.size) (λq hq=>by
          rcases hq with rfl|hq
          ·omega
          ·rw[e1'.O]at hq
           change some gl2=some q at hq
           injection hq with hq
           omega) h0.drew.size)
         have jj6:=ah (Ws hV9 LQ.O);have Eh:=ah (show Bx w9 aT bx 40 [] V9 (EZ p s n (k+1))from Gq)
         clear Gq uQ hV9 hxd hx' LQ Qe hmay jcP e1';go_wp2_with fail;go_roundw
         case rel=>exact⟨k+1,V9,jj6.O,by omega,by go_num,Eh.O,h09⟩
         case measure=>simp[dY];omega
        ·obtain rfl:k=(s.aC n).aH.length:=by omega
         have hx2:=ah (show Bx wr aT bx 40 [] V (jM p (n+1) (mW s))by rw[<- jb1 hc'.O hlt Uh.O];exact hx'.O)
         go_wp2_with fail;go_roundw
         case rel=>exact⟨n+1,V,LQ.O,by omega,by go_num,hx2.O,h0⟩
         case measure=>simp[dY];omega
      ·have hq:(kd !=1)=true:=by simpa using hk
       have Qu:=h0.alloc h0.size (.cells #[kd,.slice (some gl) (s.aC n).aH.length cl] 114);have hxa:=ah (show Bx _ aT bx 40 [] V (jM p (n+1) (mW s))by rw[jfS (by rw[Uh.O];exact hk)];exact(hx'.O.below ((aj wr wr).alloc (ay _) (.cells #[kd,.slice (some gl) (s.aC n).aH.length cl] 114))))
       clear hk;go_wp2_with fail;go_roundw
       case rel=>exact⟨n+1,V,LQ.O,by omega,by go_num,hxa.O,Qu⟩
       case measure=>simp[dY];omega
     ·obtain rfl:n=s.ak.length:=by omega
      have hB0:=fD hb0 h0;have hx2:=ah (show Bx wr aT bx 40 [] V (EY p s)from hx'.O)
      clear hx';have fH:=hR.O _ h0;obtain⟨b0,b1,b2,b3,b4,b5,b6⟩:=jB.cells hx2.O.vw;have lT:=dX.one hx2.O.own;go_wp2_with (refine dU (.tmp 4) (.tmp 99) dV V rfl fH rfl lT (λw9 dS jg=>?_))
      have wO:=dX.keptBy hx2.O.own jg fH;have eF:=Below.gV hB0 jg;clear b0 b1 b2 b3 b4 b5 b6;go_wp2_with fail;exact jl results63 dS rfl rfl (F7 dw.O (wO.from_ hle) eF)
 ·have hne:(aO p s !=0)=true:=by simpa using hc
  have dw:=ah (UF hc);clear hc;have fH:=hR.O _ h1;go_wp2_with (refine dU (.tmp 4) (.tmp 19) dV dV rfl fH rfl rfl (λw9 dS jg=>?_))
  have eF:=Below.gV hB1 jg;go_wp2_with fail;exact jl results63 dS rfl rfl (jJ dw.O eF)
end
section
attribute [local go_sem] aV jF iY jI
theorem jkJ{w:World}{aT:Nat}{V:SV}{s:aI}(p:dG)(Ab:Option Addr)(cb:Nat)(As:Option Addr)(cs:Nat)(ho:dX w aT V s):
  ∃W0:World,((w.alloc (kD p Ab cb As cs)).alloc (.cells #[V.on,V.ak,V.aA,V.aF,V.jf,V.O,V.dB] 40)).alloc (.cells TL 40)=W0/\Below w w W0/\
   W0.heap.size=w.heap.size+1+1+1/\iJ W0 w 25 [.slice Ab p.dP.length cb,.slice As p.aW.length cs]/\Bx W0 aT (w.heap.size+1) 40 [] V s/\jB W0 (w.heap.size+1+1) dV:=by
 have hb1:Below w w (w.alloc (kD p Ab cb As cs)):=(aj _ _).alloc (ay _) _;have h1:iJ (w.alloc (kD p Ab cb As cs)) w 25 [.slice Ab p.dP.length cb,.slice As p.aW.length cs]:=iJ.new _ _ _;have h2:=iJ.new (w.alloc (kD p Ab cb As cs)) 40 #[V.on,V.ak,V.aA,V.aF,V.jf,V.O,V.dB];rw[dK]at h2
 have h3:=iJ.new ((w.alloc (kD p Ab cb As cs)).alloc (.cells #[V.on,V.ak,V.aA,V.aF,V.jf,V.O,V.dB] 40)) 40 TL;rw[dK,dK]at h3
 refine⟨_,rfl,(hb1.alloc (by simp) _).alloc (by simp;omega) _,by simp,(h1.alloc _).alloc _,Bx.of (h2.alloc _) (((ho.below hb1).alloc _).alloc _),h3⟩
def jkT(p:dG)(s:aI)(o k:Nat)(n but:Int)(w:World)(aT:Nat)(V:SV)(e:Ending)(w':World):Prop:=
 ∃V',V'={V with aA:=V'.aA}/\e=.returned (.tuple #[V'.val,.int .i64 (qM p s o k n but).2])/\dX w' aT V' (qM p s o k n but).1/\Step (λj=>(V.aK o).ownBlock=some j) w w'
theorem jip(w:World)(v:Value)(p:dG)(s:aI)(o k:Nat)(n but:Int){aT:Nat}{V:SV}(hp:kK w w v p)(hr:lu p s)(hm:May s o k n)(ho:dX w aT V s)(wu:aT<=w.heap.size):
  Calls prog 119 #[v,V.val,o,k,n,but] w (jkT p s o k n but w aT V):=by
 obtain⟨Ab,cb,As,cs,rfl,hP',hBn,hSz,hlb,hls⟩:=o9 hp;change Calls prog 119 #[.agg (xu p Ab cb As cs),.agg #[V.on,V.ak,V.aA,V.aF,V.jf,V.O,V.dB],o,k,n,but] w _;obtain⟨gl,cl,curl,e1,hgl,Dz,_⟩:=ho.fG hm.ho hm.hk;have hll:=Dz.lt;go_enter func119,ntmps119
 go_wp2_with fail;obtain⟨W0,hW0,hb0,hsE,hpl,hB0,hres⟩:=jkJ p Ab cb As cs ho;rw[hW0];clear hW0 Dz;have y0:=hpl.cell (j:=0) rfl;have y1:=hpl.cell (j:=1) rfl;go_wp2_with fail;refine(jnR _ _ p (hP'.O _ hb0) (by have:=hr.sane.counts;omega)).mono ?_
 rintro e W1 ⟨uw,rfl,Xt,h1⟩;obtain⟨Aw,cw,rfl⟩:=Xt.isSlice;rw[D5]at Xt ⊢
 have hB1:=ah (hB0.below h1);obtain⟨juI,f0,_,_,_⟩:=hB1.O.own.tJ hm.ho hm.hk e1;obtain⟨go,co,jkD,eo,hgo,OY,z0,z1⟩:=hB1.O.own.bK hm.ho;obtain⟨c0,c1,c2,c3,c4,c5,c6⟩:=hB1.O.cells;rw[eo]at c1
 rw[e1]at z1
 have hon:(o:Int)<(s.ak.length:Int):=by have:=hm.ho;omega
 have hkn:(k:Int)<((s.aC o).aH.length:Int):=by have:=hm.hk;omega
 have hm':=ah hm;have hr':=ah hr;have jcM:=ah Xt;have jrH:=ah (hres.below h1 hres.lt);have hlw:(way p).length<=6:=by rw[V4];exact hr.sane.counts.2.1
 have hl0:=h1.size;clear hm hr Xt hB0 y0 y1 hP' hBn hSz hpl hres;go_wp2_with fail;clear c0 c1 c2 c3 c4 c5 c6 z0 z1 f0 juI eo OY;go_loopw[16,4,17,18] (λi n' _ _ wr=>∃(j:Nat) (s':aI) (m:Int) (V':SV),V'={V with aA:=V'.aA}/\j<=(way p).length/\i=.int .i64 j/\n'=.int .i64 m/\lu p s'/\May s' o k m/\uM o k but ((way p).drop j) s' m=qM p s o k n but/\
  Bx wr aT (w.heap.size+1) 40 [] V' s'/\(s'.aK o k).dW=(s.aK o k).dW/\Step (λj=>j=w.heap.size+1\/(V.aK o).ownBlock=some j) W1 wr) (λi _ _ _ _=>(way p).length - (RowKit.intOf i).toNat)
 case atStart=>exact⟨0,s,n,V,rfl,aN _,rfl,rfl,hr'.O,hm'.O,rfl,hB1.O,rfl,Step.refl _ _⟩
 case round=>
  clear hr' hm' hB1;obtain⟨j,s',m,V',hsb,hj,rfl,rfl,hr,hm,htg,hBx,hgd,hst⟩:=hrel;have hr':=ah hr;have hm':=ah hm;have jja:=ah htg;have jfh:=ah hBx;have hst':=ah hst;have hgd':=ah hgd;have hks:=ah (show ∀j,(j=w.heap.size+1\/(V.aK o).ownBlock=some j)->j<=w.heap.size+1 from λj h=>by
   rcases h with rfl|h
   ·omega
   ·rw[e1]at h
    change some gl=some j at h
    injection h with h
    omega)
  by_cases hlt:j<(way p).length
  ·have hwb:=JO p _ (dh hlt);have hwr:=jcM.O.step hst (λk hk joD=>absurd (hks.O k joD) (by have:=(jcM.O.size k hk).1;omega))
   obtain⟨gw,cw',jvH,ew,hgw,hbw,zw⟩:=dX.CU hwr (g:=j) (by rw[D5];exact hlt)
   rw[jaO hlt]at zw
   obtain⟨wb,jeL⟩:∃x,x=(way p)[j]:=⟨_,rfl⟩;rw[<- jeL]at zw hwb
   have ji7:=ah jeL;clear jeL;obtain rfl:Aw=some ⟨gw,0,none⟩:=by injection ew
   clear ew;have hgood:=ah (hr.sane.aK hm.ho hm.hk);have hjl:(j:Int)<((way p).length:Int):=by omega
   have hr2:=ah hr.sane;have hbb:=ah (show 0<=(wb:Int)/\(wb:Int)<p.dP.length by omega)
   have S9:=ah hsb;have hdr:uM o k but (wb::(way p).drop (j+1)) s' m=qM p s o k n but:=by rw[ji7.O,<- drop_at hlt];exact jja.O
   have hdr':=ah hdr;obtain⟨c0,c1,c2,c3,c4,c5,c6⟩:=hBx.cells;clear hr hm htg hBx hst hwr hbw hsb hdr hgd;by_cases Qr:(wb:Int)=but
   ·have hq:((wb:Int)==but)=true:=by simpa using Qr
    have YP:=ah (show uM o k but ((way p).drop (j+1)) s' m=qM p s o k n but by rw[<- hdr'.O,zM (.inl Qr)])
    clear Qr;go_wp2_with fail;go_roundw
    case rel=>exact⟨j+1,s',m,V',S9.O,by omega,by go_num,rfl,hr'.O,hm'.O,YP.O,jfh.O,hgd'.O,hst'.O⟩
    case measure=>simp[dY];omega
   ·have hq:((wb:Int)==but)=false:=by simpa using Qr
    have jsc:=ah Qr;clear Qr;go_wp2_with fail;clear c0 c1 c2 c3 c4 c5 c6 zw;refine(jcd _ _ p s' wb (s.aK o k).dW (jfh.O.own.view hr2.O) hr2.O hbb.O (by rw[<- hgd'.O];exact hgood.O.1)).mono ?_
    rintro e W6 ⟨rfl,hb6⟩;obtain⟨mm,hmm⟩:∃x,(if lW s' ↑wb (s.aK o k).dW<m then lW s' ↑wb (s.aK o k).dW else m)=x:=⟨_,rfl⟩
    have hmin:mm=min m (lW s' wb (s'.aK o k).dW):=by rw[<- hmm,hgd'.O];split<;>omega
    have hav:=hm'.O.lW hr'.O hwb;have hmb:=hm'.O.eU;have hm0:=hm'.O.n0;have hgb:=hgood.O;have hmr:mm<=m/\m<=200/\0<=mm/\mm<=lW s' wb (s'.aK o k).dW:=by omega
    have hbr:0<=(s'.aK o k).eU/\(s'.aK o k).eU<=200:=by omega
    have OO:=ah (hst'.O.trans (.of_below hb6));have hBx6:=ah (jfh.O.below hb6);have hmin':=ah hmin;have jlT:=ah hmr;clear hmin hav hmb hm0 hgb hmr;by_cases hge:1<=mm
    ·have hge0:0<mm:=by omega
     have hfit:=ah (hm'.O.fits hwb hge jlT.O.1 jlT.O.2.2.2);have YP:=ah (show uM o k but ((way p).drop (j+1)) (uj s' o k wb mm) (m - mm)=qM p s o k n but by rw[<- hdr'.O,Hl jsc.O (by rw[<- hmin'.O];exact hge),<- hmin'.O])
     have lZ:=qH hr2.O.aA;have jfa:aT<=W6.heap.size:=aU wu (aU hb0.size (aU hl0 (aU hst'.O.size hb6.size)));have hkr:=MK hr'.O hfit.O;have hw0:IntKind.i64.wrap (dD s'.aA o k wb+mm)=dD s'.aA o k wb+mm:=aP _ (by omega)
     go_wp2_with fail;clear hmm;refine IX 15 [rV 52 (.pointer (some ⟨w.heap.size+1,2,none⟩)),rV 53 (V'.aA),rV 54 (o),rV 55 (k),rV 56 (wb),rV 57 (.pointer (some ⟨w.heap.size+1,2,none⟩)),rV 58 (V'.aA),rV 59 (o),rV 60 (k),rV 61 (wb),λgq w'=>(λv w'=>v=.int .i64 (dD s'.aA o k wb)) (gq 62) w',rV 63 (mm),rV 64 (.int .i64 (dD s'.aA o k wb+mm)),λgq w'=>(λv w'=>Own iD 4 116 w' W6 v (uj s' o k wb mm).aA) (gq 65) w',rV 66 (.pointer (some ⟨w.heap.size+1,2,none⟩))] ?_ (λf w2 hb2 hR=>?_)
     simp only[aG,aS];refine bT.v (λgq w' hb ho hd=>?_) ?_
     ·have e7:=ho 7 rfl;go_simp
     refine bT.v (λgq w' hb ho hd=>?_) ?_
     ·have e52:_=_:=hd.d 0;have x2:=(hBx6.O.below hb).cells.2.2.1;go_simp
     refine bT.v (λgq w' hb ho hd=>?_) ?_
     ·have e2:=ho 2 rfl;go_simp
     refine bT.v (λgq w' hb ho hd=>?_) ?_
     ·have e3:=ho 3 rfl;go_simp
     refine bT.v (λgq w' hb ho hd=>?_) ?_
     ·have e17:=ho 17 rfl;go_simp
     refine bT.v (λgq w' hb ho hd=>?_) ?_
     ·have e7:=ho 7 rfl;go_simp
     refine bT.v (λgq w' hb ho hd=>?_) ?_
     ·have e57:_=_:=hd.d 5;have x2:=(hBx6.O.below hb).cells.2.2.1;go_simp
     refine bT.v (λgq w' hb ho hd=>?_) ?_
     ·have e2:=ho 2 rfl;go_simp
     refine bT.v (λgq w' hb ho hd=>?_) ?_
     ·have e3:=ho 3 rfl;go_simp
     refine bT.v (λgq w' hb ho hd=>?_) ?_
     ·have e17:=ho 17 rfl;go_simp
     refine bT.cons (sN.one (d:=62) (p:=(λv w'=>v=.int .i64 (dD s'.aA o k wb))) rfl rfl (λv w1 w2 h hb=>h) (λgq w' hb ho hd=>?_)) ?_
     ·have e58:_=_:=hd.d 6;have e59:_=_:=hd.d 7;have e60:_=_:=hd.d 8;have e61:_=_:=hd.d 9;have hs:=(hBx6.O.below hb).own.aA.sl (by omega)
      unfold iq;go_simp
      refine(jax w' _ s'.aA o k wb hs).mono ?_
      rintro e w2 ⟨rfl,rfl⟩;exact⟨_,rfl,rfl,aj _ _⟩
     refine bT.v (λgq w' hb ho hd=>?_) ?_
     ·have e18:=ho 18 rfl;go_simp
     refine bT.v (λgq w' hb ho hd=>?_) ?_
     ·have e62:(gq 62)=(dD s'.aA o k wb):=hd.d 10;have e63:_=_:=hd.d 11;go_simp
     refine bT.cons (sN.one (d:=65) (p:=(λv w'=>Own iD 4 116 w' W6 v (uj s' o k wb mm).aA)) rfl rfl (λv w1 w2 h hb=>h.below hb) (λgq w' hb ho hd=>?_)) ?_
     ·have e53:_=_:=hd.d 1;have e54:_=_:=hd.d 2;have e55:_=_:=hd.d 3;have e56:_=_:=hd.d 4;have e64:_=_:=hd.d 12;have hs:=(hBx6.O.below hb).own.aA.sl (by omega)
      unfold iq;go_simp
      refine(jin w' _ s'.aA o k wb _ hs hr2.O.aA (J6 hr2.O hm'.O.ho hm'.O.hk hwb)).mono ?_
      rintro e w2 ⟨u,rfl,hu,hb2⟩;exact⟨u,rfl,hu.from_ hb.size,hb2⟩
     refine bT.v (λgq w' hb ho hd=>?_) ?_
     ·have e7:=ho 7 rfl;go_simp
     exact bT.nil;obtain⟨r52,r53,r54,r55,r56,r57,r58,r59,r60,r61,r62,r63,r64,r65,r66,_⟩:=hR;replace r62:(f 62)=(dD s'.aA o k wb):=r62;replace r65:Own iD 4 116 w2 W6 (f 65) (uj s' o k wb mm).aA:=r65;simp only[kP,qJ,aG,aS,bU,dH,bY,cO,dA,dL,aQ,bG,bH,r52,r53,r54,r55,r56,r57,r58,r59,r60,r61,r62,r63,r64,r66];clear r52 r53 r54 r55 r56 r57 r58 r59 r60 r61 r62 r63 r64 r66;obtain⟨A7,c7,hv7⟩:=r65.isSlice;rw[hv7]at r65
     simp only[hv7];have G5:=ah (hBx6.O.below hb2);have hu7:=ah (r65.from_ jfa);clear r65 hv7;refine Iu rfl (.tmp 66) (.tmp 65) rfl rfl A7 _ c7 _ G5.O rfl rfl hu7.O (λw8 Kq BX=>?_)
     refine eP ?_
     have hv8:V'.aK o=.slice (some gl) (s.aC o).aH.length cl:=by rw[S9.O];exact e1
     obtain⟨jr0,f0,f1,f2,f3⟩:=Kq.own.tJ (s:={s' with aA:=(uj s' o k wb mm).aA}) hm'.O.ho hm'.O.hk hv8
     obtain⟨go8,co8,curo8,eo8,hgo8,joY,z0,z1⟩:=Kq.own.bK (s:={s' with aA:=(uj s' o k wb mm).aA}) hm'.O.ho
     obtain⟨c0,c1,c2,c3,c4,c5,c6⟩:=Kq.cells;rw[eo8]at c1
     have z1':w8.cell? ⟨go8,o*2+1,none⟩=some (V'.aK o):=z1;rw[hv8]at z1'
     have hon8:(o:Int)<(s'.ak.length:Int):=by have:=hm'.O.ho;omega
     have hkn8:(k:Int)<((s.aC o).aH.length:Int):=by omega
     have O1:=ah Kq;have hw1:IntKind.i64.wrap ((s'.aK o k).eU - mm)=(s'.aK o k).eU - mm:=aP _ (by omega)
     have hw2:IntKind.i64.wrap (m - mm)=m - mm:=aP _ (by have:=jlT.O;omega)
     have f3':w8.cell? ⟨gl,k*4+3,none⟩=some (.int .i64 (s'.aK o k).eU):=f3;have jtZ:=ah hv8;clear Kq f0 f1 f2 f3 z0 z1 c0 c2 c3 c4 c5 c6 eo8 joY hv8 hw0;go_wp2_with fail;go_still_tail 21,(by kernel_rfl)
     change wpList _ _ _ _ _ w8.drew;refine BO rfl (.tmp 87) (.tmp 85) rfl rfl (j:=3) (y:={s'.aK o k with eU:=(s'.aK o k).eU - mm}) O1.O.drew hm'.O.ho hm'.O.hk jtZ.O (by decide) rfl rfl rfl (λw9 jkg uQ=>?_)
     refine eP ?_
     have jkf:=ah (show Bx w9 aT (w.heap.size+1) 40 [] {V' with aA:=.slice A7 (uj s' o k wb mm).aA.length c7} (uj s' o k wb mm)from jkg)
     have jje:=ah (((OO.O.trans (.of_below hb2)).trans (BX.mono λ_ h=>.inl h)).trans ((Step.of_below (aj _ _).drew).trans (uQ.mono λq hq=>.inr (by rw[hq,e1];rfl))))
     have juL:=ah (show((uj s' o k wb mm).aK o k).dW=(s.aK o k).dW by rw[(Fg hfit.O o k).1];exact hgd'.O)
     clear f3' jkg uQ BX c1 z1';go_wp2_with fail;go_roundw
     case rel=>exact⟨j+1,uj s' o k wb mm,m - mm,_,show _=_ by rw[S9.O],by omega,by go_num,rfl,OQ hr'.O hfit.O,hm'.O.held (Held.one hr'.O hfit.O) jlT.O.1,YP.O,jkf.O,juL.O,jje.O⟩
     case measure=>simp[dY];omega
    ·have hle0:¬ 0<mm:=by omega
     have YP:=ah (show uM o k but ((way p).drop (j+1)) s' m=qM p s o k n but by rw[<- hdr'.O,zM (.inr (by rw[<- hmin'.O];omega))])
     clear hge;go_wp2_with fail;clear hmm;go_roundw
     case rel=>exact⟨j+1,s',m,V',S9.O,by omega,by go_num,rfl,hr'.O,hm'.O,YP.O,hBx6.O,hgd'.O,OO.O⟩
     case measure=>simp[dY];omega
  ·obtain rfl:j=(way p).length:=by omega
   have dw:=ah (show(s',m)=qM p s o k n but by rw[<- jja.O,xH];rfl)
   have S9:=ah hsb;obtain⟨c0,c1,c2,c3,c4,c5,c6⟩:=hBx.cells;have jnc:jB wr (w.heap.size+1+1) dV:=hst.blk jrH.O.blk (λh=>by have:=hks.O _ h;omega)
   have hone:=hBx.own.one;clear hr hm htg hBx hst hsb;go_wp2_with (refine dU (.tmp 12) (.tmp 91) dV V' rfl jnc rfl hone (λw9 dS jg=>?_))
   have wO:=jfh.O.own.keptBy jg jnc.blk;obtain⟨p0,p1,p2,p3,p4,p5,p6⟩:=dS.cells;have eF:Step (λj=>(V.aK o).ownBlock=some j) w w9:=
    ((Step.of_below (fD hb0 h1)).trans' hst'.O (λq hq h=>h.resolve_left (by omega))).trans' (Step.nG (ks:=λq=>q=w.heap.size+1+1) jg (λq hq=>by injection hq with hq;exact hq.symm)) (λq hq h=>by omega)
   clear c0 c1 c2 c3 c4 c5 c6;go_wp2_with fail;exact bV (v:=.tuple #[V'.val,m]) (by simp[results,results119,go_sem,SV.val,p0,p1,p2,p3,p4,p5,p6]) rfl ⟨V',S9.O,by rw[<- dw.O],by rw[<- dw.O];exact wO,eF⟩
end
section
attribute [local go_sem] aV jF iY jI
theorem N7{o:Oper}{ev:Operand->Value}{w:World}{K:Value->World->Prop}(x y:Operand)(ho:o.op=.store 40 x y)(b:Nat)(V V':SV)(H9:jB w b V)(hx:ev x=.pointer (some b))(hy:ev y=V'.val)(h1:V'.cells.all (λu=>u.oneCell')=true)
  (h:∀w',jB w' b V'->w.grownBy w' (some b)->K undef w'):iq prog o ev w K:=by
 have hr:=run_storeVar_row (P:=prog) w b 40 40 V.cells.toArray V'.cells.toArray H9 (by kernel_rfl) rfl (by simpa using h1)
 have hk:=h _ (H9.blk.row V'.cells) (wL w b V'.cells.toArray);have hy':ev y=.agg V'.cells.toArray:=hy;unfold iq execOp;simp only[ho,hx,hy',Instr.storeAt,Instr.sureAddr,iP,jc,gY,hr];exact hk
def jtL(aT bx:Nat)(V:SV)(s s1:aI):Nat->World->Prop
 |0,w=>Bx w aT bx 40 [] V s
 |1,w=>jB w bx V/\∃V9:SV,V9={V with aA:=V9.aA}/\dX w aT V9 s1
 |_,w=>∃V9:SV,V9={V with aA:=V9.aA}/\Bx w aT bx 40 [] V9 s1
def WI(W:World)(aT bx:Nat)(V:SV)(s s1:aI)(ph:Nat)(w:World):Prop:=Below W W w/\aT<=w.heap.size/\jtL aT bx V s s1 ph w
section
variable {W w w1 w2:World} {aT bx ph:Nat} {V:SV} {s s1:aI}
theorem WH(h:WI W aT bx V s s1 ph w1)(hb:Below w1 w1 w2):WI W aT bx V s s1 ph w2:=by
 obtain⟨h1,h2,h3⟩:=h;refine⟨fD h1 hb,aU h2 hb.size,?_⟩
 rcases ph with _|_|ph
 ·exact Bx.below h3 hb
 ·obtain⟨h4,V9,h5,h6⟩:=h3;exact⟨h4.below hb h4.lt,V9,h5,h6.below hb⟩
 ·obtain⟨V9,h5,h6⟩:=h3;exact⟨V9,h5,h6.below hb⟩
theorem jb0(h:WI W aT bx V s s1 ph w):∃Vb:SV,jB w bx Vb/\Vb.ak=V.ak/\(ph=0->Vb=V):=by
 obtain⟨h1,h2,h3⟩:=h;rcases ph with _|_|ph
 ·exact⟨V,Bx.vw h3,rfl,λ_=>rfl⟩
 ·exact⟨V,h3.1,rfl,λh=>by omega⟩
 ·obtain⟨V9,h5,h6⟩:=h3;exact⟨V9,h6.vw,by rw[h5],λh=>by omega⟩
theorem jil(h:WI W aT bx V s s1 ph w):∃(Vo:SV) (sq:aI),dX w aT Vo sq/\Vo.ak=V.ak/\Vo.aK=V.aK/\(sq=s\/sq=s1)/\(ph=0->sq=s):=by
 obtain⟨h1,h2,h3⟩:=h;rcases ph with _|_|ph
 ·exact⟨V,s,Bx.own h3,rfl,rfl,.inl rfl,λ_=>rfl⟩
 ·obtain⟨h4,V9,h5,h6⟩:=h3;exact⟨V9,s1,h6,by rw[h5],by rw[h5];rfl,.inr rfl,λh=>by omega⟩
 ·obtain⟨V9,h5,h6⟩:=h3;exact⟨V9,s1,h6.own,by rw[h5],by rw[h5];rfl,.inr rfl,λh=>by omega⟩
end
def Jp(aT:Nat)(V:SV)(s1:aI)(f:Value->Value):Nat->Value->World->Prop
 |0,_,_=>False
 |1,v,w=>∃V9:SV,V9={V with aA:=V9.aA}/\v=f V9.val/\dX w aT V9 s1
 |_,v,_=>∃V9:SV,v=f V9.val
theorem Ho{aT:Nat}{V:SV}{s1:aI}{f:Value->Value}{ph:Nat}{v:Value}{w1 w2:World}(h:Jp aT V s1 f ph v w1)(hb:Below w1 w1 w2):Jp aT V s1 f ph v w2:=by
 rcases ph with _|_|ph
 ·exact h
 ·obtain⟨V9,h5,h6,h7⟩:=h;exact⟨V9,h5,h6,h7.below hb⟩
 ·exact h
theorem JB{aT:Nat}{V:SV}{s1:aI}{f:Value->Value}{k:Nat}{v:Value}{w1 w2:World}(hk:k<=1)(h:Jp aT V s1 f k v w1):Jp aT V s1 f (k+1) v w2:=by
 rcases(show k=0\/k=1 by omega)with rfl|rfl
 ·exact h.elim
 ·obtain⟨V9,h5,h6,h7⟩:=h;exact⟨V9,h6⟩
theorem jef(w:World)(v vs:Value)(p:dG)(s:aI)(hp:kK w w v p)(hv:kG w w vs s):
  Calls prog 74 #[v,vs] w (nN (zO p s) w):=by
 obtain⟨Ab,cb,As,cs,rfl,hP',hBn,hSz,hlb,hls⟩:=o9 hp;obtain⟨A0,c0,A1,c1,A2,c2,A3,c3,A4,c4,A5,c5,A6,c6,rfl,hV,hN,hO,hH,hM,hI,hU,hX,hl0,hl1,hl2,hl3,hl4,hl5,Jb⟩:=lY hv;go_enter func74,ntmps74
 go_wp2_with fail;obtain⟨W0,hW0,hb0,kX,um,hsE,hK,hR⟩:=yS w p s Ab cb As cs A0 c0 A1 c1 A2 c2 A3 c3 A4 c4 A5 c5 A6 c6;rw[hW0];clear hW0;obtain⟨⟨y0,y1⟩,x0,x1,x2,x3,x4,x5,x6,fB,fC⟩:=hK.O W0 (aj W0 W0);go_wp2_with fail;clear y0 y1 x0 x1 x2 x3 x4 x5 x6 fB fC;refine(BD _ _ _ p s (hP'.O _ hb0) (hV.O _ hb0)).mono ?_
 rintro e W1 ⟨rfl,h1⟩;have hB1:=fD hb0 h1;obtain⟨⟨y0,y1⟩,x0,x1,x2,x3,x4,x5,x6,fB,fC⟩:=hK.O W1 (h1);by_cases hc:aO p s=0
 ·have hc':=ah hc;have hsn:=ah (gB.1 hc).1;have dw:=ah (WG hc);have h4:=hsn.O.nX;rw[hc];clear hc;go_wp2_with fail;clear y0 y1 x0 x1 x2 x3 x4 x5 x6 fB fC;refine(FM _ _ p s (hV.O _ hB1) hsn.O).mono ?_
  rintro e W5 ⟨_,rfl,⟨V5,rfl,DC⟩,h5⟩;have rU:=(DC).one;have zV:=Dj (W5);go_wp2_with (refine dU (.tmp 7) (.tmp 20) dV V5 rfl zV rfl rU (λw6 nK Jv=>?_);refine bD ?_)
  unfold Hid;have vG:=xg Jv;have x9:=nK.lt;clear rU zV Jv;have hx6:=ah (Bx.of nK (DC.below vG));have h06:=h1.trans ((fD h5 vG).mono h1.size);have hle:w.heap.size<=W1.heap.size:=hB1.size;have hle0:W0.heap.size<=W1.heap.size:=h1.size;have Bl:W1.heap.size<=W5.heap.size:=h5.size;clear nK DC vG h5 x9 h1 hB1;generalize W1.heap.size=aT at hx6 hle hle0 Bl
  generalize W5.heap.size=bx at hx6 Bl ⊢
  obtain⟨Ao,co,TM⟩:=hx6.O.own.IB;have H7:=ah TM;clear TM;go_wp2_with fail;go_loopw[8,9] (λi _ wr=>∃n:Nat,n<=s.ak.length/\i=.int .i64 n/\Bx wr aT bx 40 [] V5 (uh s n)/\Below W0.heap.size W0 wr) (λi _ _=>s.ak.length - (RowKit.intOf i).toNat)
  case atStart=>exact⟨0,aN _,rfl,by rw[U0];exact hx6.O,h06⟩
  case round=>
   clear hx6 h06;obtain⟨n,hn,rfl,hx,h0⟩:=hrel;have hx':=ah hx;clear hx;have c1:=hx'.O.cells.2.1;rw[H7.O]at c1
   by_cases hlt:n<s.ak.length
   ·have hni:(n:Int)<(s.ak.length:Int):=by omega
    have MH:n<(uh s n).ak.length:=by rw[FB];exact hlt
    have l13:=hsn.O.rE hlt;obtain⟨go,_,_,eo,-⟩:=hx'.O.own.bK MH;rw[H7.O]at eo
    injection eo with eo e2 e3
    subst eo;clear e2 e3;obtain⟨hgo,jhf,z0,z1⟩:=hx'.O.own.oQ MH H7.O;rw[Jy hlt]at z0
    clear MH;by_cases hk:(s.aC n).eH=0
    ·have hq:((s.aC n).eH !=0)=false:=by simpa using hk
     have hk':=ah hk;clear hk;go_wp2_with (refine Hf rfl (.tmp 39) (.const (.int .i64 1)) rfl rfl (i:=n) (q:=1) hx'.O (by rw[FB];exact hlt) H7.O rfl rfl (λw7 hx7 Dy=>?_);refine bD ?_)
     unfold Hid;rw[U3 hlt]at hx7
     have h07:=h0.trans (Dy.below (B:=W0.heap.size) (λq hq=>by omega) h0.size)
     have zT:=ah hx7;clear Dy hx7 z0 z1 c1 hq hx';obtain⟨gl,cl,e1,hgl⟩:=zT.O.own.Ey (o:=n) (by rw[Kr];exact hlt) (by rw[EF hlt];omega)
     rw[EF hlt]at e1
     have e1':=ah e1;clear e1;go_wp2_with fail;go_loopw[9] (λi wr=>∃k:Nat,k<=(s.aC n).aH.length/\i=.int .i64 k/\Bx wr aT bx 40 [] V5 (Ej s n k)/\Below W0.heap.size W0 wr) (λi _=>(s.aC n).aH.length - (RowKit.intOf i).toNat)
     case atStart=>exact⟨0,aN _,rfl,zT.O,h07⟩
     case round=>
      clear zT h07 h0;obtain⟨k,hkl,rfl,hx,h0⟩:=hrel;have hx':=ah hx;clear hx;have hon:n<(Ej s n k).ak.length:=by rw[Kr];exact hlt
      obtain⟨_,_,_,z1⟩:=hx'.O.own.oQ hon H7.O;rw[e1'.O]at z1
      have c1:=hx'.O.cells.2.1;rw[H7.O]at c1
      have jcS:=ah hon;clear hon;by_cases hkt:k<(s.aC n).aH.length
      ·have hki:(k:Int)<((s.aC n).aH.length:Int):=by omega
       have hkn:k<((Ej s n k).aC n).aH.length:=by rw[EF hlt];exact hkt
       obtain⟨YR,f0,f1,f2,f3⟩:=hx'.O.own.tJ jcS.O hkn e1'.O;rw[Lm hlt hkt]at f1
       have Xr:=ah hx'.O.drew;have hkn':=ah hkn;clear f0 f2 f3 hkn;go_wp2_with fail;go_still_tail 19,(by kernel_rfl)
       change wpList _ _ _ _ _ wr.drew;refine BO rfl (.tmp 69) (.tmp 67) rfl rfl (j:=3) (y:={s.aK n k with eU:=(s.aK n k).jk}) Xr.O jcS.O hkn'.O e1'.O (by decide) (by rw[Lm hlt hkt];rfl) rfl rfl (λw9 Gq uQ=>?_)
       refine eP ?_
       rw[U4 hlt hkt]at Gq
       have h09:=h0.drew.trans (uQ.below (B:=W0.heap.size) (λq hq=>by omega) h0.drew.size)
       have Eh:=ah Gq;clear uQ Gq z1 f1 c1 hx' Xr;go_wp2_with fail;go_roundw
       case rel=>exact⟨k+1,by omega,by go_num,Eh.O,h09⟩
       case measure=>simp[dY];omega
      ·obtain rfl:k=(s.aC n).aH.length:=by omega
       have hx2:=ah (show Bx wr aT bx 40 [] V5 (uh s (n+1))by rw[<- XU hlt hk'.O];exact hx'.O)
       go_wp2_with fail;go_roundw
       case rel=>exact⟨n+1,by omega,by go_num,hx2.O,h0⟩
       case measure=>simp[dY];omega
    ·have hq:((s.aC n).eH !=0)=true:=by simpa using hk
     have hx2:=ah (show Bx wr aT bx 40 [] V5 (uh s (n+1))by rw[U2 hlt hk];exact hx'.O)
     clear hk;go_wp2_with fail;go_roundw
     case rel=>exact⟨n+1,by omega,by go_num,hx2.O,h0⟩
     case measure=>simp[dY];omega
   ·obtain rfl:n=s.ak.length:=by omega
    have hx6:=ah (show Bx wr aT bx 40 [] V5 (jM p 0 (mW s))by rw[<- XT];exact hx'.O)
    clear hx';go_wp2_with fail;clear c1;have h06:=h0;clear h0;go_loopw[10,11] (λi _ wr=>∃(n:Nat) (V:SV),V={V5 with aA:=V.aA}/\n<=s.ak.length/\i=.int .i64 n/\Bx wr aT bx 40 [] V (jM p n (mW s))/\Below W0.heap.size W0 wr) (λi _ _=>s.ak.length - (RowKit.intOf i).toNat)
    case atStart=>exact⟨0,V5,rfl,aN _,rfl,hx6.O,h06⟩
    case round=>
     clear hx6 h06;obtain⟨n,V,ZP,hn,rfl,hx,h0⟩:=hrel;have hx':=ah hx;have Qe:=ah (show V.ak=.slice Ao s.ak.length co by rw[ZP];exact H7.O)
     have LQ:=ah ZP;have c1:=hx.cells.2.1;rw[Qe.O]at c1
     clear hx ZP;by_cases hlt:n<s.ak.length
     ·have hni:(n:Int)<(s.ak.length:Int):=by omega
      have l13:=hsn.O.rE hlt;obtain⟨hrt,lZ,Ja⟩:=Nj (p:=p) hc'.O hn;have MH:n<(jM p n (mW s)).ak.length:=by rw[lZ];exact hlt
      have hln:=Ja n hlt;obtain⟨go,_,_,eo,-⟩:=hx'.O.own.bK MH;rw[Qe.O]at eo
      injection eo with eo e2 e3
      subst eo;clear e2 e3;have juA:∃kd,((jM p n (mW s)).aC n).eH=kd:=⟨_,rfl⟩;obtain⟨kd,hkd⟩:=juA;have Uh:=ah hkd;obtain⟨gl,cl,e1,hgl⟩:=hx'.O.own.Ey MH (by rw[hln];omega)
      rw[hln]at e1
      have e1':=ah e1;have hgo:=(hx'.O.own.oQ MH Qe.O).1;have h06:=h0;have hx6:=hx';clear hkd hrt lZ Ja MH hln e1 h0 hx';go_wp2_with fail;clear c1;by_cases hk:kd=1
      ·subst hk;go_loopw[11] (λi wr=>∃(k:Nat) (V:SV),V={V5 with aA:=V.aA}/\k<=(s.aC n).aH.length/\i=.int .i64 k/\Bx wr aT bx 40 [] V (EZ p s n k)/\Below W0.heap.size W0 wr) (λi _=>(s.aC n).aH.length - (RowKit.intOf i).toNat)
       case atStart=>exact⟨0,V,LQ.O,aN _,rfl,hx6.O,h06⟩
       case round=>
        clear hx6 h06 Qe LQ e1' V;obtain⟨k,V,ZP,hkl,rfl,hx,h0⟩:=hrel;have hx':=ah hx;have Qe:=ah (show V.ak=.slice (some go) s.ak.length co by rw[ZP];exact H7.O)
        have LQ:=ah ZP;clear hx ZP;obtain⟨hrt,lZ,hkk,hln⟩:=Nk hc'.O hlt Uh.O hkl;have jcP:=ah hrt;have hon:n<(EZ p s n k).ak.length:=by rw[lZ];exact hlt
        obtain⟨_,_,z0,z1⟩:=hx'.O.own.oQ hon Qe.O;rw[hkk,Uh.O]at z0
        obtain⟨gl2,cl2,e1,jr2⟩:=hx'.O.own.Ey hon (by rw[hln];omega)
        rw[hln]at e1
        rw[e1]at z1
        have e1':=ah e1;obtain⟨b0,c1,b2,b3,b4,b5,b6⟩:=hx'.O.cells;rw[Qe.O]at c1
        have jcS:=ah hon;have jjw:=ah hln;have hlen0:=ah lZ;clear hrt lZ hkk hln hon e1;by_cases hkt:k<(s.aC n).aH.length
        ·have hki:(k:Int)<((s.aC n).aH.length:Int):=by omega
         have hkn:k<((EZ p s n k).aC n).aH.length:=by rw[jjw.O];exact hkt
         have hmay:=ah (jb2 hc'.O hlt Uh.O hkt);obtain⟨YR,f0,f1,f2,f3⟩:=hx'.O.own.tJ jcS.O hkn e1'.O;have hxd:=ah hx'.O.drew;have hBd:=hb0.trans (h0.drew.mono hb0.size);have hbs:bx<wr.heap.size:=hx'.O.lt;have juy:k+1<=(s.aC n).aH.length:=hkt;obtain⟨_,hlen1,_,jlW⟩:=Nk hc'.O hlt Uh.O juy;have hfr:∃s1 x,EZ p s n (k+1)=s1/\(qM p (EZ p s n k) n k ((EZ p s n k).aK n k).eU (-1)).2=x:=⟨_,_,rfl,rfl⟩;obtain⟨s1,x,hs1,hxx⟩:=hfr;have hs1':=ah hs1;have jg3:=ah hxx;rw[hs1]at hlen1 jlW
         have jjz:=ah hlen1;have jnn:=ah jlW;have wu:aT<=wr.drew.heap.size:=by show aT<=wr.heap.size;omega
         have hT0:WI W0 aT bx V (EZ p s n k) s1 0 wr.drew:=⟨h0.drew,wu,hxd.O⟩;have jj7:=ah hT0;have hrd:∀ph w',WI W0 aT bx V (EZ p s n k) s1 ph w'->∃Vb:SV,jB w' bx Vb/\Vb.ak=.slice (some go) s.ak.length co/\(ph=0->Vb=V):=λph w' h=>by
          obtain⟨Vb,h1,h2,h3⟩:=jb0 h;exact⟨Vb,h1,h2.trans Qe.O,h3⟩
         have hrl:∀ph w',WI W0 aT bx V (EZ p s n k) s1 ph w'->w'.cell? ⟨go,n*2+1,none⟩=some (.slice (some gl2) (s.aC n).aH.length cl2)/\∃q,w'.cell? ⟨gl2,k*4+3,none⟩=some (.int .i64 q)/\(ph=0->q=((EZ p s n k).aK n k).eU):=λph w' h=>by
          obtain⟨Vo,sq,h1,h2,h3,h4,h5⟩:=jil h;have hq1:sq.ak.length=s.ak.length:=by
           rcases h4 with rfl|rfl
           ·exact hlen0.O
           ·exact jjz.O
          have hq2:(sq.aC n).aH.length=(s.aC n).aH.length:=by
           rcases h4 with rfl|rfl
           ·exact jjw.O
           ·exact jnn.O
          obtain⟨_,_,_,z1⟩:=h1.oQ (by rw[hq1];exact hlt) (h2.trans Qe.O)
          have el:Vo.aK n=.slice (some gl2) (s.aC n).aH.length cl2:=by rw[h3];exact e1'.O
          rw[el]at z1
          obtain⟨_,_,_,_,f3⟩:=h1.tJ (by rw[hq1];exact hlt) (by rw[hq2];exact hkt) el
          exact⟨z1,_,f3,λh0=>by rw[h5 h0]⟩
         have joj:=ah hrd;have jeP:=ah hrl;clear hs1 hxx hlen1 jlW hT0 hrd hrl f0 f1 f2 f3 hkn b0 b2 b3 b4 b5 b6 wu;go_wp2_with fail;clear z0 z1 c1;refine JJ 19 (WI W0 aT bx V (EZ p s n k) s1) (λk' w1 w2=>WI W0 aT bx V (EZ p s n k) s1 k' w1->WI W0 aT bx V (EZ p s n k) s1 (k'+1) w2) 14 18 (by decide) (by decide) (by decide) (λo ho=>by injection ho with ho;subst ho;exact⟨⟨14,.chain⟩,by simp,rfl,rfl⟩)
          [λ_ gq _=>gq 98=.agg (xu p Ab cb As cs),λph gq w'=>(λ(ph:Nat) (v:Value) (_:World)=>∃V':SV,v=V'.val/\(ph=0->V'=V)) ph (gq 99) w',λ_ gq _=>gq 100=n,λ_ gq _=>gq 101=k,λ_ gq _=>gq 102=.pointer (some ⟨bx,1,none⟩),λ_ gq _=>gq 103=.slice (some go) s.ak.length co,λ_ gq _=>gq 104=n,λ_ gq _=>gq 105=.pointer (some ⟨go,n*2,none⟩),λ_ gq _=>gq 106=.pointer (some ⟨go,n*2+1,none⟩),λ_ gq _=>gq 107=.slice (some gl2) (s.aC n).aH.length cl2,λ_ gq _=>gq 108=k,λ_ gq _=>gq 109=.pointer (some ⟨gl2,k*4,none⟩),λ_ gq _=>gq 110=.pointer (some ⟨gl2,k*4+3,none⟩),λph gq w'=>(λ(ph:Nat) (v:Value) (_:World)=>∃q,v=.int .i64 q/\(ph=0->q=((EZ p s n k).aK n k).eU)) ph (gq 111) w',λph gq w'=>Jp aT V s1 (λv=>.tuple #[v,x]) ph (gq 112) w',λph gq w'=>Jp aT V s1 (λv=>.tuple #[v,x]) ph (gq 97) w',λph gq w'=>Jp aT V s1 id ph (gq 113) w',λ_ gq _=>gq 114=x,λph gq w'=>ph=2/\True] (by kernel_rfl) (by kernel_rfl) rfl (by kernel_rfl)
          (λph w1 w2 h h'=>WH h h') (λk w1 w2 _ h h'=>h' h) jj7.O ?_ (λf w2 hb2 hR=>?_)
         simp only[aG,aS];refine xw.v (λph gq w' hb ho hd=>?_) ?_
         ·have e2:=ho 2 rfl;obtain⟨⟨y0,y1⟩,x0,x1,x2,x3,x4,x5,x6,fB,fC⟩:=hK.O w' (hb.1);go_simp
         refine xw.cons (TI.one (d:=99) (p:=λ(ph:Nat) (v:Value) (_:World)=>∃V':SV,v=V'.val/\(ph=0->V'=V)) rfl rfl (by decide) (by decide) (λph v w1 w2 h hb=>h) (λk v w1 w2 _ h hb=>by
           obtain⟨V',h1,h2⟩:=h;exact⟨V',h1,λh=>by omega⟩) (λph gq w' hb ho hd=>?_)) ?_
         ·have e7:=ho 7 rfl;obtain⟨Vb,hvb,jeM,hvv⟩:=joj.O ph w' hb;have jrq:=ah jeM;clear jeM;obtain⟨b0,b1,b2,b3,b4,b5,b6⟩:=hvb.cells;have ji8:=ah hvv;clear hvv hvb;unfold iq;go_simp
          exact⟨⟨Vb,by first|rfl|(unfold SV.val;rw[jrq.O]),ji8.O⟩,aj _ _⟩
         refine xw.v (λph gq w' hb ho hd=>?_) ?_
         ·have e10:=ho 10 rfl;go_simp
         refine xw.v (λph gq w' hb ho hd=>?_) ?_
         ·have e11:=ho 11 rfl;go_simp
         refine xw.v (λph gq w' hb ho hd=>?_) ?_
         ·have e7:=ho 7 rfl;go_simp
         refine xw.v (λph gq w' hb ho hd=>?_) ?_
         ·have e102:_=_:=hd.d 4;obtain⟨Vb,hvb,jeM,hvv⟩:=joj.O ph w' hb;have c1:=hvb.cells.2.1;rw[jeM]at c1
          clear hvv hvb jeM;go_simp
         refine xw.v (λph gq w' hb ho hd=>?_) ?_
         ·have e10:=ho 10 rfl;go_simp
         refine xw.v (λph gq w' hb ho hd=>?_) ?_
         ·have e103:_=_:=hd.d 5;have e104:_=_:=hd.d 6;go_simp
         refine xw.v (λph gq w' hb ho hd=>?_) ?_
         ·have e105:_=_:=hd.d 7;go_simp
         refine xw.v (λph gq w' hb ho hd=>?_) ?_
         ·have e106:_=_:=hd.d 8;obtain⟨z1,_⟩:=jeP.O ph w' hb;go_simp
         refine xw.v (λph gq w' hb ho hd=>?_) ?_
         ·have e11:=ho 11 rfl;go_simp
         refine xw.v (λph gq w' hb ho hd=>?_) ?_
         ·have e107:_=_:=hd.d 9;have e108:_=_:=hd.d 10;go_simp
         refine xw.v (λph gq w' hb ho hd=>?_) ?_
         ·have e109:_=_:=hd.d 11;go_simp
         refine xw.cons (TI.one (d:=111) (p:=λ(ph:Nat) (v:Value) (_:World)=>∃q,v=.int .i64 q/\(ph=0->q=((EZ p s n k).aK n k).eU)) rfl rfl (by decide) (by decide) (λph v w1 w2 h hb=>h) (λk v w1 w2 _ h hb=>by
           obtain⟨V',h1,h2⟩:=h;exact⟨V',h1,λh=>by omega⟩) (λph gq w' hb ho hd=>?_)) ?_
         ·have jvE:_=_:=hd.d 12;obtain⟨_,q,f3,hvv⟩:=jeP.O ph w' hb;have ji8:=ah hvv;clear hvv;unfold iq;go_simp
          exact⟨ji8.O,aj _ _⟩
         refine xw.cons (TI.first (d:=112) (p:=Jp aT V s1 (λv=>.tuple #[v,x])) rfl rfl (λph v w1 w2 h hb=>Ho h hb) (λv w1 w2 h hb=>JB (ay _) h) (λgq w' hb ho hd=>?_)) ?_
         ·have e98:_=_:=hd.d 0;have e99:∃V':SV,gq 99=V'.val/\((0:Nat)=0->V'=V):=hd.d 1;have e100:_=_:=hd.d 2;have e101:_=_:=hd.d 3;have jta:∃q,gq 111=.int .i64 q/\((0:Nat)=0->q=((EZ p s n k).aK n k).eU):=hd.d 13;obtain⟨V',e99,hVV⟩:=e99;obtain⟨q,jta,hqq⟩:=jta;obtain rfl:=(hVV rfl).symm;obtain rfl:=(hqq rfl).symm;have hb':=ah hb;clear hb hVV hqq;unfold iq;go_simp
          refine(jip w' _ p (EZ p s n k) n k _ (-1) (hP'.O _ (hb0.trans (hb'.O.1.mono hb0.size))) jcP.O hmay.O (Bx.own hb'.O.2.2) hb'.O.2.1).mono ?_
          rintro e w9 ⟨V9,hV9,rfl,C9,uQ⟩;have Gs:dX w9 aT V9 s1:=by rw[<- hs1'.O];exact C9
          rw[jg3.O];refine⟨_,rfl,⟨V9,hV9,rfl,Gs⟩,λ_=>⟨hb'.O.1.trans (uQ.below (B:=W0.heap.size) (λq hq=>by
           rw[e1'.O]at hq
           change some gl2=some q at hq
           injection hq with hq
           omega) hb'.O.1.size),aU hb'.O.2.1 uQ.size,uQ.blk (Bx.vw hb'.O.2.2).blk ?_,V9,hV9,Gs⟩⟩
          rcases Own.qy ((Bx.own hb'.O.2.2).aK n jcS.O) (Bx.vw hb'.O.2.2).blk (by decide)with h|h
          ·rw[h];simp
          ·exact h
         refine xw.cons (TI.one (d:=97) (p:=Jp aT V s1 (λv=>.tuple #[v,x])) rfl rfl (by decide) (by decide) (λph v w1 w2 h hb=>Ho h hb) (λk v w1 w2 hk h hb=>JB hk h) (λph gq w' hb ho hd=>?_)) ?_
         ·have jpy:Jp aT V s1 (λv=>.tuple #[v,x]) ph (gq 112) w':=hd.d 14
          have js9:=ah jpy;clear jpy;unfold iq;go_simp
          exact⟨js9.O,aj _ _⟩
         refine xw.cons (TI.one (d:=113) (p:=Jp aT V s1 id) rfl rfl (by decide) (by decide) (λph v w1 w2 h hb=>Ho h hb) (λk v w1 w2 hk h hb=>JB hk h) (λph gq w' hb ho hd=>?_)) ?_
         ·have e97:Jp aT V s1 (λv=>.tuple #[v,x]) ph (gq 97) w':=hd.d 15
          rcases ph with _|_|ph
          ·exact e97.elim
          ·obtain⟨V7,hV7,e97,I9⟩:=e97;have ja2:=ah I9;have jpc:=ah hV7;clear I9 hV7;unfold iq;go_simp
           exact⟨⟨V7,jpc.O,rfl,ja2.O⟩,aj _ _⟩
          ·obtain⟨V7,e97⟩:=e97;unfold iq;go_simp
           exact⟨⟨V7,rfl⟩,aj _ _⟩
         refine xw.v (λph gq w' hb ho hd=>?_) ?_
         ·have e97:Jp aT V s1 (λv=>.tuple #[v,x]) ph (gq 97) w':=hd.d 15
          have jvy:∃V7:SV,gq 97=.tuple #[V7.val,x]:=by
           rcases ph with _|_|ph
           ·exact e97.elim
           ·obtain⟨V7,_,h,_⟩:=e97;exact⟨V7,h⟩
           ·exact e97
          clear e97;obtain⟨V7,e97⟩:=jvy;go_simp
         refine xw.cons (TI.second (p:=λ_ _=>True) (by decide) rfl (λgq w1 w2 h hb=>trivial) (λgq gq' w1 he h=>trivial) (λgq w' hb ho hd=>?_)) ?_
         ·have e7:=ho 7 rfl;have jpx:Jp aT V s1 id 1 (gq 113) w':=hd.d 16;obtain⟨V7,hV7,jpx,I9⟩:=jpx;refine N7 (.tmp 7) (.tmp 113) rfl bx V V7 hb.2.2.1 e7 jpx I9.one (λw8 IL Qq=>?_)
          exact⟨trivial,λ_=>⟨hb.1.grown Qq hb.1.size (λq hq=>by injection hq with hq;omega),aU hb.2.1 Qq.size,V7,hV7,Bx.of IL (I9.keptBy Qq hb.2.2.1.blk)⟩⟩
         exact xw.nil;obtain⟨r98,⟨V0,r99,_⟩,jq1,jq0,jqZ,jqY,jqX,jqW,jqV,jqU,jqT,jqS,jqR,⟨q0,jqQ,_⟩,⟨V1,jqP⟩,⟨V2,r97⟩,⟨V3,jqO⟩,jqN,_⟩:=hR;simp only[kP,qJ,aG,aS,bU,dH,bY,cO,dA,dL,aQ,bG,bH,r98,r99,jq1,jq0,jqZ,jqY,jqX,jqW,jqV,jqU,jqT,jqS,jqR,jqQ,jqP,r97,jqO,jqN];clear r98 r99 jq1 jq0 jqZ jqY jqX jqW jqV jqU jqT jqS jqR jqQ jqP r97 jqO jqN;refine eP ?_
         obtain⟨h09,_,V9,hV9,Gq⟩:=hb2;have jj6:=ah (Ws hV9 LQ.O);have Eh:=ah (show Bx w2 aT bx 40 [] V9 (EZ p s n (k+1))by rw[hs1'.O];exact Gq)
         clear Gq hV9 hxd hx' LQ Qe hmay jcP e1' hs1' jg3 jj7 joj jeP jjz jnn;go_wp2_with fail;go_roundw
         case rel=>exact⟨k+1,V9,jj6.O,by omega,by go_num,Eh.O,h09⟩
         case measure=>simp[dY];omega
        ·obtain rfl:k=(s.aC n).aH.length:=by omega
         have hx2:=ah (show Bx wr aT bx 40 [] V (jM p (n+1) (mW s))by rw[<- jb1 hc'.O hlt Uh.O];exact hx'.O)
         go_wp2_with fail;go_roundw
         case rel=>exact⟨n+1,V,LQ.O,by omega,by go_num,hx2.O,h0⟩
         case measure=>simp[dY];omega
      ·have hko:(kd==1)=false:=by simpa using hk
       have hkx:=ah hk;clear hk;go_loopw[11] (λi wr=>i=zI/\Bx wr aT bx 40 [] V (jM p n (mW s))/\Below W0.heap.size W0 wr) (λi _=>0)
       case atStart=>exact⟨rfl,hx6.O,h06⟩
       case round=>
        clear hx6 h06;obtain⟨rfl,hx,h0⟩:=hrel;have hx':=ah hx;clear hx;obtain⟨hrt,lZ,Ja⟩:=Nj (p:=p) hc'.O hn;have MH:n<(jM p n (mW s)).ak.length:=by rw[lZ];exact hlt
        obtain⟨_,_,z0,z1⟩:=hx'.O.own.oQ MH Qe.O;rw[Uh.O]at z0
        rw[e1'.O]at z1
        have c1:=hx'.O.cells.2.1;rw[Qe.O]at c1
        have hl0:(0:Int)<((s.aC n).aH.length:Int):=by omega
        have hx2:=ah (show Bx wr aT bx 40 [] V (jM p (n+1) (mW s))by rw[jfS (by rw[Uh.O];exact hkx.O)];exact hx'.O)
        clear hrt lZ Ja MH;go_wp2_with fail;go_roundw
        case rel=>exact⟨n+1,V,LQ.O,by omega,by go_num,hx2.O,h0⟩
        case measure=>simp[dY];omega
     ·obtain rfl:n=s.ak.length:=by omega
      have hB0:=fD hb0 h0;have hx2:=ah (show Bx wr aT bx 40 [] V (EY p s)from hx'.O)
      have hvv:=Qe.O;clear hx' Qe LQ;obtain⟨a0,a1,a2,a3,a4,a5,a6,a7,a8⟩:=V;obtain rfl:a1=.slice Ao s.ak.length co:=hvv;have fH:=hR.O _ h0;obtain⟨b0,b1,b2,b3,b4,b5,b6⟩:=jB.cells hx2.O.vw;have lT:=dX.one hx2.O.own;go_wp2_with (refine dU (.tmp 4) (.tmp 115) dV (⟨a0,.slice Ao s.ak.length co,a2,a3,a4,a5,a6,a7,a8⟩:SV) rfl fH rfl lT (λw9 dS jg=>?_))
      have wO:=dX.keptBy hx2.O.own jg fH;have eF:=Below.gV hB0 jg;clear b0 b1 b2 b3 b4 b5 b6;go_wp2_with fail;exact jl results74 dS rfl rfl (F7 dw.O (wO.from_ hle) eF)
 ·have hne:(aO p s !=0)=true:=by simpa using hc
  have dw:=ah (UF hc);clear hc;have fH:=hR.O _ h1;go_wp2_with (refine dU (.tmp 4) (.tmp 17) dV dV rfl fH rfl rfl (λw9 dS jg=>?_))
  have eF:=Below.gV hB1 jg;go_wp2_with fail;exact jl results74 dS rfl rfl (jJ dw.O eF)
end
section
attribute [local go_sem] aV jF iY jI
theorem jkK(w:World)(o:Int)(p:dG)(s:aI)(Ab:Option Addr)(cb:Nat)(As:Option Addr)(cs:Nat)(A0:Option Addr)(c0:Nat)(A1:Option Addr)(c1:Nat)(A2:Option Addr)(c2:Nat)(A3:Option Addr)(c3:Nat)(A4:Option Addr)(c4:Nat)(A5:Option Addr)(c5:Nat)(A6:Option Addr)(c6:Nat):
  ∃W0:World,(((w.alloc (kD p Ab cb As cs)).alloc (kV s A0 c0 A1 c1 A2 c2 A3 c3 A4 c4 A5 c5 A6 c6)).alloc (.cells #[o] 3)).alloc (.cells TL 40)=W0/\Below w w W0/\w.heap.size+1<W0.heap.size/\w.heap.size<W0.heap.size/\Hid (W0.heap.size=w.heap.size+1+1+1+1)/\
   Hid (∀W,Below W0 W0 W->(W.cell? w=some (.slice Ab p.dP.length cb)/\W.cell? ⟨w.heap.size,1,none⟩=some (.slice As p.aW.length cs))/\W.cell? ⟨w.heap.size+1,0,none⟩=some (.slice A0 s.on.length c0)/\W.cell? ⟨w.heap.size+1,1,none⟩=some (.slice A1 s.ak.length c1)/\W.cell? ⟨w.heap.size+1,2,none⟩=some (.slice A2 s.aA.length c2)/\W.cell? ⟨w.heap.size+1,3,none⟩=some (.slice A3 s.aF.length c3)/\W.cell? ⟨w.heap.size+1,4,none⟩=some (.slice A4 s.jf.length c4)/\W.cell? ⟨w.heap.size+1,5,none⟩=some (.slice A5 s.O.length c5)/\W.cell? ⟨w.heap.size+1,6,none⟩=some (.slice A6 s.dB.length c6)/\w.heap.size+1<W.heap.size/\w.heap.size<W.heap.size)/\
   Hid (∀W,Below W0 W0 W->W.cell? ⟨w.heap.size+1+1,0,none⟩=some (.int .i64 o)/\w.heap.size+1+1<W.heap.size)/\
   Hid (∀W,Below W0 W0 W->iJ W (w.heap.size+1+1+1) 40 [nS,nS,nS,nS,nS,nS,nS]):=by
 obtain⟨W1,e1,b1,s1,s2,s3,hK⟩:=uT w p s Ab cb As cs A0 c0 A1 c1 A2 c2 A3 c3 A4 c4 A5 c5 A6 c6;rw[e1];have e3:W1.heap.size=w.heap.size+1+1:=s3;have ha0:Below W1 W1 (W1.alloc (.cells #[o] 3)):=(aj _ _).alloc (ay _) _;have h0:iJ (W1.alloc (.cells #[o] 3)) W1 3 [o]:=iJ.new _ _ _;generalize hW2:W1.alloc (.cells #[o] 3)=W2 at ha0 h0 ⊢
 have e4:W2.heap.size=w.heap.size+1+1+1:=by rw[<- hW2,dK,e3]
 have ha:Below W2 W2 (W2.alloc (.cells TL 40)):=(aj _ _).alloc (ay _) _;have h1:iJ (W2.alloc (.cells TL 40)) W2 40 [nS,nS,nS,nS,nS,nS,nS]:=iJ.new _ _ _;have h2:iJ (W2.alloc (.cells TL 40)) W1 3 [o]:=h0.below ha h0.lt;have h12:=fD ha0 ha;rw[e3]at h2
 rw[e4]at h1
 refine⟨_,rfl,fD b1 h12,by simp[e4]<;>omega,by simp[e4]<;>omega,ah (by simp[e4]),ah λW hW=>?_,ah λW hW=>?_,ah λW hW=>h1.below hW (by simp[e4])⟩
 ·exact vV hK W (fD h12 hW)
 ·have h3:=h2.below hW (by simp[e4]<;>omega)
  exact⟨h3.cell rfl,h3.lt⟩
theorem tH{a b:Option Nat}(h:a=none\/a≠b):∀k,a=some k->¬b=some k:=by
 rintro k rfl h2;rcases h with h|h
 ·cases h
 ·exact h h2.symm
theorem dX.Zi{w w':World}{aT:Nat}{V:SV}{s:aI}(h:dX w aT V s)(hs:Step (λq=>V.aA.ownBlock=some q) w w'){v:Value}{l:List eX}(hv:Own iD 4 116 w' aT v l):dX w' aT {V with aA:=v} {s with aA:=l}:=
 ⟨h.on.step hs (tH (h.on.apart h.aA (by decide))),h.rlen,λb hb=>(h.row b hb).step hs (tH ((h.row b hb).apart h.aA (by decide))),h.ak.step hs (tH (h.ak.apart h.aA (by decide))),h.llen,λo ho=>(h.aK o ho).step hs (tH ((h.aK o ho).apart h.aA (by decide))),hv,h.aF.step hs (tH (h.aF.apart h.aA (by decide))),h.jf.step hs (tH (h.jf.apart h.aA (by decide))),h.O.step hs (tH (h.O.apart h.aA (by decide))),h.dB.step hs (tH (h.dB.apart h.aA (by decide))),h.apart,h.yT⟩
theorem jmz(x:eX)(o:Int)(W:World)(B:Nat)(h0:W.cell? B=some (.int .i64 o))(hB:B<W.heap.size):
  Calls prog 101 (#[uK x]++#[.pointer (some B)]) W λe W'=>e=.returned (.bool (x.aC==o))/\Below W W W':=by
 have hb0:Below W W (W.alloc (nC x)):=(aj _ _).alloc (ay _) _;change Calls prog 101 #[uK x,.pointer (some B)] W _;unfold uK;go_enter func101,ntmps101
 go_wp2_with fail;go_ret
 exact⟨rfl,hb0⟩
theorem jhp:Enters prog 101:=enters_of func101 (by kernel_rfl) rfl
theorem jhS(w:World)(v vs:Value)(p:dG)(s:aI)(o:Int)(hp:kK w w v p)(hv:kG w w vs s):
  Calls prog 64 #[v,vs,o] w (nN (Ad p s o) w):=by
 obtain⟨Ab,cb,As,cs,rfl,hP',hBn,hSz,hlb,hls⟩:=o9 hp;obtain⟨A0,c0,A1,c1,A2,c2,A3,c3,A4,c4,A5,c5,A6,c6,rfl,hV,hN,hO,hH,hM,hI,hU,hX,hl0,hl1,hl2,hl3,hl4,hl5,Jb⟩:=lY hv;go_enter func64,ntmps64
 go_wp2_with fail;obtain⟨W0,hW0,hb0,kX,um,hsE,hK,hJ,hR⟩:=jkK w o p s Ab cb As cs A0 c0 A1 c1 A2 c2 A3 c3 A4 c4 A5 c5 A6 c6;rw[hW0];clear hW0;obtain⟨⟨y0,y1⟩,x0,x1,x2,x3,x4,x5,x6,fB,fC⟩:=hK.O W0 (aj W0 W0);go_wp2_with fail;clear y0 y1 x0 x1 x2 x3 x4 x5 x6 fB fC;refine(Nh _ _ _ p s (hP'.O _ hb0) (hV.O _ hb0)).mono ?_
 rintro e W1 ⟨rfl,h1⟩;have hB1:=fD hb0 h1;obtain⟨⟨y0,y1⟩,x0,x1,x2,x3,x4,x5,x6,fB,fC⟩:=hK.O W1 (h1);obtain⟨i0,i1⟩:=hJ.O W1 h1;by_cases hc:aO p s=0
 ·have hc':=ah hc;have hsn:=ah (gB.1 hc).1;have h4:=hsn.O.nX;rw[hc];clear hc;by_cases q0:o<0
  ·have dw:=ah (PI hc'.O (.inl q0));have fH:=hR.O _ h1;go_wp2_with (refine dU (.tmp 6) (.tmp 29) dV dV rfl fH rfl rfl (λw9 dS jg=>?_))
   have eF:=Below.gV hB1 jg;go_wp2_with fail;exact jl results64 dS rfl rfl (jJ dw.O eF)
  by_cases q1:(s.ak.length:Int)<=o
  ·have dw:=ah (PI hc'.O (.inr q1));have q0':decide (o<0)=false:=by simp;omega
   have fH:=hR.O _ h1;go_wp2_with (refine dU (.tmp 6) (.tmp 29) dV dV rfl fH rfl rfl (λw9 dS jg=>?_))
   have eF:=Below.gV hB1 jg;go_wp2_with fail;exact jl results64 dS rfl rfl (jJ dw.O eF)
  obtain⟨i,rfl⟩:∃i:Nat,o=i:=⟨o.toNat,by omega⟩
  have hi:i<s.ak.length:=by omega
  have hi':(i:Int)<s.ak.length:=by omega
  have q0':decide ((i:Int)<0)=false:=by simp
  have q1':decide ((s.ak.length:Int)<=i)=false:=by simp;omega
  clear q0 q1;obtain⟨Al,cl,ol,ll,d0,d1,hsl⟩:=(hO.O W1 hB1).aC hi;change W1.cell? _=some (Value.int IntKind.i64 (s.aC i).eH)at d0
  by_cases hk:(s.aC i).eH=2
  ·have dw:=ah (Vd hc'.O hi hk);rw[hk]at d0
   clear hk;have fH:=hR.O _ h1;go_wp2_with (refine dU (.tmp 6) (.tmp 37) dV dV rfl fH rfl rfl (λw9 dS jg=>?_))
   have eF:=Below.gV hB1 jg;go_wp2_with fail;exact jl results64 dS rfl rfl (jJ dw.O eF)
  ·have dw:=ah (jac hc'.O hi hk);have hq:((s.aC i).eH==2)=false:=by simpa using hk
   clear hk;go_wp2_with fail;clear y0 y1 x0 x1 x2 x3 x4 x5 x6 fB fC;clear d0 d1 i0 i1 hsl hq;refine(jbV _ _ p s (hV.O _ hB1) hsn.O).mono ?_
   rintro e W5 ⟨_,rfl,⟨V5,rfl,DC⟩,h5⟩;have rU:=(DC).one;have zV:=Dj (W5);go_wp2_with (refine dU (.tmp 9) (.tmp 39) dV V5 rfl zV rfl rU (λw6 nK Jv=>?_);refine bD ?_)
   unfold Hid;have vG:=xg Jv;have x9:=nK.lt;clear rU zV Jv;have hx6:=ah (Bx.of nK (DC.below vG));have h06:=h1.trans ((fD h5 vG).mono h1.size);have hle:w.heap.size<=W1.heap.size:=hB1.size;have hle0:W0.heap.size<=W1.heap.size:=h1.size;have Bl:W1.heap.size<=W5.heap.size:=h5.size;clear nK DC vG h5 x9 h1 hB1;generalize W1.heap.size=aT at hx6 hle hle0 Bl
   generalize W5.heap.size=bx at hx6 Bl ⊢
   obtain⟨Ao,co,TM⟩:=hx6.O.own.IB;have H7:=ah TM;obtain⟨Ah,ch,hvh⟩:=hx6.O.own.aA.isSlice;have c2:=hx6.O.cells.2.2.1;rw[hvh]at c2
   have hoh:=hx6.O.own.aA;rw[hvh]at hoh
   have ji9:=ah hvh;have jlQ:=ah hoh;clear TM hvh hoh;go_wp2_with fail;clear c2;refine(U5 w6 aT _ s.aA 101 #[.pointer (some ⟨w.heap.size+1+1,0,none⟩)] (λx=>x.aC==(i:Int)) jhp jlQ.O (by have:=qH hsn.O.aA;omega) (λk hk W hW=>by
    have h0W:=h06.trans (hW.below (B:=W0.heap.size) (λq hq=>by
     have h9:=jlQ.O.size q hq;omega) h06.size)
    obtain⟨j0,j1⟩:=hJ.O W h0W;exact jmz _ _ W _ j0 j1)).mono ?_
   rintro e w7 ⟨v7,rfl,I9,Dy,Vm⟩;obtain⟨A7,c7,rfl⟩:=I9.isSlice;have hl7:∃l7,(s.aA.filter λx=>!(x.aC==(i:Int)))=l7:=⟨_,rfl⟩
   obtain⟨l7,hl7⟩:=hl7;rw[hl7]at I9 Vm ⊢
   have jjf:Step (λq=>V5.aA.ownBlock=some q) w6 w7:=by rw[ji9.O];exact Dy
   have YU:=hx6.O.own.Zi jjf I9;have hb7:jB w7 bx V5:=jjf.blk hx6.O.vw.blk (tH (hx6.O.own.aA.qy hx6.O.vw.blk (by decide)) _ · rfl)
   have hfl:=ah (show l7=s.aA.filter λh=>decide (h.aC≠(i:Int))by
    rw[<- hl7];congr 1
    funext x
    by_cases hx:x.aC=(i:Int)<;>simp[hx])
   have jhb:l7.length<=1000000:=by
    rw[<- hl7];have:=kR (λx=>!(x.aC==(i:Int))) s.aA
    have:=qH hsn.O.aA;omega
   have h07:=ah (h06.trans (Dy.below (B:=W0.heap.size) (λq hq=>by
     have h9:=jlQ.O.size q hq;omega) h06.size))
   have jsE:=ah YU;have jsq:=ah hb7;clear I9 Vm Dy jjf YU hb7 hx6 jlQ h06 hl7;go_wp2_with (refine Jm rfl (.tmp 44) (.tmp 43) rfl rfl A7 l7.length c7 (V:=V5) (cs:=[]) (b:=bx) (by rw[jd];exact jsq.O.blk) jsE.O Yi rfl rfl rfl (λw8 MC BX=>?_);refine bD ?_)
   unfold Hid;have BG:=h07.O.trans (BX.below (B:=W0.heap.size) (λq hq=>by omega) h07.O.size)
   obtain⟨i0,i1⟩:=hJ.O w8 BG;have wJ:=ah MC;obtain⟨V8,hV8⟩:∃V8:SV,{V5 with aA:=.slice A7 l7.length c7}=V8:=⟨_,rfl⟩
   rw[hV8]at wJ
   have jrp:V8.ak=.slice Ao s.ak.length co:=by rw[<- hV8];exact H7.O
   have ZN:=ah jrp;clear MC BX hV8 jsE jsq h07 jrp H7 ji9;obtain⟨go,_,_,eo,-⟩:=wJ.O.own.bK (o:=i) hi;rw[ZN.O]at eo
   injection eo with eo e2 e3
   subst eo;clear e2 e3;obtain⟨hgo,jhf,z0,z1⟩:=wJ.O.own.oQ (o:=i) hi ZN.O;have c1:=wJ.O.cells.2.1;rw[ZN.O]at c1
   go_wp2_with (refine Hf rfl (.tmp 51) (.const (.int .i64 2)) rfl rfl (i:=i) (q:=2) wJ.O hi ZN.O rfl rfl (λw9 Gq uQ=>?_);refine bD ?_)
   unfold Hid;have Gq:Bx w9 aT bx 40 [] V8 (GK s l7 i 0):=by rw[<- Yg];exact Gq
   have h09:=BG.trans (uQ.below (B:=W0.heap.size) (λq hq=>by omega) BG.size)
   have Eh:=ah Gq;clear uQ Gq z0 z1 c1 wJ BG i0 i1;have l13:=hsn.O.rE hi;obtain⟨_,_,z0,z1⟩:=Eh.O.own.oQ (o:=i) (by rw[MR];exact hi) ZN.O
   obtain⟨gl,cl,e1,hgl⟩:=Eh.O.own.Ey (o:=i) (by rw[MR];exact hi) (by rw[F5 hi];omega)
   rw[F5 hi]at e1
   have e1':=ah e1;rw[e1]at z1
   clear e1 z0;go_wp2_with fail;clear z1;go_loopw[57,11,12] (λj _ _ wr=>∃k:Nat,k<=(s.aC i).aH.length/\j=.int .i64 k/\Bx wr aT bx 40 [] V8 (GK s l7 i k)/\Below W0.heap.size W0 wr) (λj _ _ _=>(s.aC i).aH.length - (RowKit.intOf j).toNat)
   case atStart=>exact⟨0,aN _,rfl,Eh.O,h09⟩
   case round=>
    clear Eh h09;obtain⟨k,hkl,rfl,hx,h0⟩:=hrel;have hx':=ah hx;clear hx;by_cases hkt:k<(s.aC i).aH.length
    ·have hki:(k:Int)<((s.aC i).aH.length:Int):=by omega
     have hon:i<(GK s l7 i k).ak.length:=by rw[MR];exact hi
     have hkn:k<((GK s l7 i k).aC i).aH.length:=by rw[F5 hi];exact hkt
     obtain⟨_,_,_,z1⟩:=hx'.O.own.oQ hon ZN.O;rw[e1'.O]at z1
     obtain⟨YR,f0,f1,f2,f3⟩:=hx'.O.own.tJ hon hkn e1'.O;rw[NU hi hkt]at f1 f2
     have hlr:=hsn.O.aK hi hkt;have hwr:IntKind.i64.wrap ((s.aK i k).jk - (s.aK i k).qI)=(s.aK i k).jk - (s.aK i k).qI:=by rw[jQ];omega
     have Xr:=ah hx'.O.drew;clear f0 f3 hlr;go_wp2_with fail;go_still_tail 12,(by kernel_rfl)
     change wpList _ _ _ _ _ wr.drew;refine BO rfl (.tmp 77) (.tmp 75) rfl rfl (j:=3) (y:={s.aK i k with eU:=(s.aK i k).jk - (s.aK i k).qI}) Xr.O hon hkn e1'.O (by decide) (by rw[NU hi hkt];rfl) rfl rfl (λw9 Gq uQ=>?_)
     refine eP ?_
     rw[Yh hi hkt]at Gq
     have h09:=h0.drew.trans (uQ.below (B:=W0.heap.size) (λq hq=>by omega) h0.drew.size)
     have Eh:=ah Gq;clear uQ Gq z1 f1 f2 hx' Xr hon hkn hwr;go_wp2_with fail;go_roundw
     case rel=>exact⟨k+1,by omega,by go_num,Eh.O,h09⟩
     case measure=>simp[dY];omega
    ·obtain rfl:k=(s.aC i).aH.length:=by omega
     have hB0:=fD hb0 h0;have hx2:=ah (show Bx wr aT bx 40 [] V8 (yj s i)by rw[<- jad,<- hfl.O];exact hx'.O)
     clear hx';have fH:=hR.O _ h0;obtain⟨b0,b1,b2,b3,b4,b5,b6⟩:=jB.cells hx2.O.vw;have lT:=dX.one hx2.O.own;go_wp2_with (refine dU (.tmp 6) (.tmp 79) dV V8 rfl fH rfl lT (λw9 dS jg=>?_))
     have wO:=dX.keptBy hx2.O.own jg fH;have eF:=Below.gV hB0 jg;clear b0 b1 b2 b3 b4 b5 b6;go_wp2_with fail;exact jl results64 dS rfl rfl (F7 dw.O (wO.from_ hle) eF)
 ·have hne:(aO p s !=0)=true:=by simpa using hc
  have dw:=ah (Yf (o:=o) hc);clear hc;have fH:=hR.O _ h1;go_wp2_with (refine dU (.tmp 6) (.tmp 18) dV dV rfl fH rfl rfl (λw9 dS jg=>?_))
  have eF:=Below.gV hB1 jg;go_wp2_with fail;exact jl results64 dS rfl rfl (jJ dw.O eF)
end
section
attribute [local go_sem] aV jF iY jI
theorem KY{o:Oper}{ev:Operand->Value}{w:World}{K:Value->World->Prop}(x y:Operand)(ho:o.op=.store 40 x y)(b:Nat)(V V':SV)(H9:jB w b V)(hx:ev x=.pointer (some b))(hy:ev y=V'.val)(h1:V'.cells.all (λu=>u.oneCell')=true)
  (h:∀w',jB w' b V'->w.grownBy w' (some b)->K undef w'):iq prog o ev w K:=by
 have hr:=run_storeVar_row (P:=prog) w b 40 40 V.cells.toArray V'.cells.toArray H9 (by kernel_rfl) rfl (by simpa using h1)
 have hk:=h _ (H9.blk.row V'.cells) (wL w b V'.cells.toArray);have hy':ev y=.agg V'.cells.toArray:=hy;unfold iq execOp;simp only[ho,hx,hy',Instr.storeAt,Instr.sureAddr,iP,jc,gY,hr];exact hk
def jpF(B:Nat)(k:Nat)(w1 w2:World):Prop:=Below B w1 w2/\(k=0->∀b V,jB w1 b V->jB w2 b V)/\(k=1->∀aT V s,dX w1 aT V s->dX w2 aT V s)
theorem jgZ{w1 w2:World}{aT i:Nat}{V:SV}{s:aI}(ho:dX w1 aT V s)(hi:i<s.ak.length)(hs:Step (λj=>(V.aK i).ownBlock=some j) w1 w2)(hB:aT<=w1.heap.size):jpF aT 0 w1 w2:=by
 refine⟨hs.below (λk hk=>((ho.aK i hi).size k hk).1) hB,λ_ b V' hb=>hs.heap hb λhk=>?_,λh=>by cases h⟩
 obtain⟨cur,hc⟩:=(ho.aK i hi).block hk;have h2:w1.heap[b]?=_:=hb;rw[hc]at h2
 injection h2 with h2
 injection h2 with _ h2
 exact absurd h2 (by decide)
theorem F9{n lo hi:Int}{b:Bool}(h:dM n lo hi=b)(w:World):Calls prog 43 #[n,lo,hi] w λe w'=>e=.returned (.bool b)/\w=w':=by
 have:=oz n lo hi w;rwa [h]at this
end
end Wh
