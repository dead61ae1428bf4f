/- Texts of the claim, joined. -/
import Derived.StillTailTactics
import Derived.Test.YtfhfkijmebhgmaaGreatQ20
import Derived.Test.YtfhfkijmebhgmaaGreatQ04
set_option maxHeartbeats 20000000
set_option maxRecDepth 100000
namespace Wh
open Go Go.RowKit Go.Shelf Go.Proofs Tryz
attribute [local go_sem] au dQ dI dX
theorem aO.iC {w:World} {base:Nat} {V:SV} {s:State} (h:aO w base V s) {o:Nat} (ho:o<s.orders.length) {go n c:Nat} (hv:V.orders=.slice (some ⟨go,0,none⟩) n c):base≤go∧go<w.heap.size∧
  w.cell? ⟨go,o*2,none⟩=some (.int .i64 (s.order o).kind)∧w.cell? ⟨go,o*2+1,none⟩=some (V.line o):=by
 obtain ⟨g',c',cur,e1,h2,h3,z0,z1⟩:=h.ay ho;rw [hv] at e1
 injection e1 with e1
 injection e1 with e1
 injection e1 with e1
 subst e1;exact ⟨h2,h3.lt,z0,z1⟩
theorem aO.tC {w:World} {base:Nat} {V:SV} {s:State} (h:aO w base V s) {o:Nat} (ho:o<s.orders.length) (hl:0<(s.order o).lines.length):∃ gl c,V.line o=.slice (some ⟨gl,0,none⟩) (s.order o).lines.length c∧base≤gl:=by
 obtain ⟨g,c,cur,e1,h2,_⟩:=h.bH ho hl;exact ⟨g,c,e1,h2⟩
theorem aO.vW {w:World} {base:Nat} {V:SV} {s:State} (h:aO w base V s):∃ A c,V.orders=.slice A s.orders.length c:=by
 obtain ⟨A,c,e⟩:=h.orders.isSlice;exact ⟨A,c,by rw [e,kV h.llen]⟩
theorem Ql {V9 V V5:SV} (h:V9={V with holds:=V9.holds}) (h':V={V5 with holds:=V.holds}):V9={V5 with holds:=V9.holds}:=by
 rw [h'] at h
 exact h
theorem jc5 (w:World) (v vs:Value) (p:Plan) (s:State) (hp:fZ w w.heap.size v p) (hv:fE w w.heap.size vs s):
  Calls prog 46 #[v,vs] w (gU (release p s) w):=by
 obtain ⟨Ab,cb,As,cs,rfl,hP',hBn,hSz,hlb,hls⟩:=kN hp;obtain ⟨A0,c0,A1,c1,A2,c2,A3,c3,A4,c4,A5,c5,A6,c6,rfl,hV,hN,hO,hH,hM,hI,hU,hX,hl0,hl1,hl2,hl3,hl4,hl5,CW⟩:=iG hv;go_enter func46,ntmps46
 go_wp2_with fail;obtain ⟨W0,hW0,hb0,hsz0,hsz1,hsE,hK,hR⟩:=oH w p s Ab cb As cs A0 c0 A1 c1 A2 c2 A3 c3 A4 c4 A5 c5 A6 c6;rw [hW0];clear hW0;obtain ⟨⟨y0,y1⟩,x0,x1,x2,x3,x4,x5,x6,aV,aW⟩:=hK.out W0 (aj W0.heap.size W0);go_wp2_with fail;clear y0 y1 x0 x1 x2 x3 x4 x5 x6 aV aW;refine (G8 _ _ _ p s (hP'.out _ hb0) (hV.out _ hb0)).mono ?_
 rintro e W1 ⟨rfl,h1⟩;have hB1:=hb0.trans (h1.mono hb0.size);obtain ⟨⟨y0,y1⟩,x0,x1,x2,x3,x4,x5,x6,aV,aW⟩:=hK.out W1 (h1);by_cases hc:checkState p s=0
 ·have hc':=Lib.hid hc;have hsn:=Lib.hid (dV.1 hc).1;have hfin:=Lib.hid (Qv hc);have h4:=hsn.out.jh;rw [hc];clear hc;go_wp2_with fail;clear y0 y1 x0 x1 x2 x3 x4 x5 x6 aV aW;refine (Yg _ _ p s (hV.out _ hB1) hsn.out).mono ?_
  rintro e W5 ⟨_,rfl,⟨V5,rfl,qK⟩,h5⟩;have jc:=(qK).one;have nK:=pV (W5);go_wp2_with (refine aK (.tmp 7) (.tmp 22) aP V5 rfl nK rfl jc (fun w6 fH zO=>?_);refine aU ?_)
  unfold Hid;have jO:=jK zO;have lQ:=fH.lt;clear jc nK zO;have hx6:=Lib.hid (Bx.of fH (qK.below jO));have h06:=h1.trans ((h5.trans (jO.mono h5.size)).mono h1.size);have hle:w.heap.size≤W1.heap.size:=hB1.size;have hle0:W0.heap.size≤W1.heap.size:=h1.size;have qp:W1.heap.size≤W5.heap.size:=h5.size;clear fH qK jO h5 lQ h1 hB1;generalize W1.heap.size=base at hx6 hle hle0 qp
  generalize W5.heap.size=bx at hx6 qp ⊢
  obtain ⟨Ao,co,hvo⟩:=hx6.out.own.vW;have yt:=Lib.hid hvo;have c1:=hx6.out.cells.2.1;rw [hvo] at c1
  clear hvo;go_wp2_with fail;clear c1;go_loopw [26,8,9,10] (fun i _ _ _ wr=>∃ n:Nat,n≤s.orders.length∧i=.int .i64 n∧Bx wr base bx 31 [] V5 (jZ s n)∧Below W0.heap.size W0 wr) (fun i _ _ _ _=>s.orders.length - (intOf i).toNat)
  case atStart=>exact ⟨0,aT _,rfl,by rw [Oh];exact hx6.out,h06⟩
  case round=>
   clear hx6 h06;obtain ⟨n,hn,rfl,hx,h0⟩:=hrel;have hx':=Lib.hid hx;clear hx;by_cases hlt:n<s.orders.length
   ·have hni:(n:Int)<(s.orders.length:Int):=by omega
    have EH:n<(jZ s n).orders.length:=by rw [vF];exact hlt
    have l13:=hsn.out.jX hlt;obtain ⟨go,_,_,eo,-⟩:=hx'.out.own.ay EH;rw [yt.out] at eo
    injection eo with eo e2 e3
    subst eo;clear e2 e3;obtain ⟨hgo,jdH,z0,z1⟩:=hx'.out.own.iC EH yt.out;rw [Ae hlt] at z0
    have c1:=hx'.out.cells.2.1;rw [yt.out] at c1
    clear EH;by_cases hk:(s.order n).kind=0
    ·have hq:((s.order n).kind==0)=true:=by simpa using hk
     have hk':=Lib.hid hk;clear hk;go_wp2_with (refine xQ rfl (.tmp 40) (.const (.int .i64 1)) rfl rfl (i:=n) (q:=1) hx'.out (by rw [vF];exact hlt) yt.out rfl rfl (fun w7 hx7 uP=>?_);refine aU ?_)
     unfold Hid;rw [Ol hlt] at hx7
     have h07:=h0.trans (uP.below (B:=W0.heap.size) (fun q hq=>by omega) h0.size)
     have pI:=Lib.hid hx7;clear uP hx7 z0 z1 c1 hq hx';obtain ⟨_,_,z0,z1⟩:=pI.out.own.iC (by rw [Cj];exact hlt) yt.out
     obtain ⟨gl,cl,e1,hgl⟩:=pI.out.own.tC (o:=n) (by rw [Cj];exact hlt) (by rw [tV hlt];omega)
     rw [tV hlt] at e1
     have e1':=Lib.hid e1;rw [e1] at z1
     clear e1 z0;go_wp2_with fail;clear z1;go_loopw [46,10] (fun i _ wr=>∃ k:Nat,k≤(s.order n).lines.length∧i=.int .i64 k∧Bx wr base bx 31 [] V5 (sS s n k)∧Below W0.heap.size W0 wr) (fun i _ _=>(s.order n).lines.length - (intOf i).toNat)
     case atStart=>exact ⟨0,aT _,rfl,pI.out,h07⟩
     case round=>
      clear pI h07 h0;obtain ⟨k,hkl,rfl,hx,h0⟩:=hrel;have hx':=Lib.hid hx;clear hx;by_cases hkt:k<(s.order n).lines.length
      ·have hki:(k:Int)<((s.order n).lines.length:Int):=by omega
       have hon:n<(sS s n k).orders.length:=by rw [Cj];exact hlt
       have hkn:k<((sS s n k).order n).lines.length:=by rw [tV hlt];exact hkt
       obtain ⟨_,_,_,z1⟩:=hx'.out.own.iC hon yt.out;rw [e1'.out] at z1
       obtain ⟨TS,f0,f1,f2,f3⟩:=hx'.out.own.jV hon hkn e1'.out;rw [Dy hlt hkt] at f1
       have QZ:=Lib.hid hx'.out.drew;clear f0 f2 f3;go_wp2_with fail;go_still_tail 15,(by kernel_rfl)
       change wpList _ _ _ _ _ wr.drew;refine qF rfl (.tmp 63) (.tmp 61) rfl rfl (j:=3) (y:={s.line n k with back:=(s.line n k).want}) QZ.out hon hkn e1'.out (by decide) (by rw [Dy hlt hkt];rfl) rfl rfl (fun w9 qj mQ=>?_)
       refine gy ?_
       rw [Om hlt hkt] at qj
       have h09:=h0.drew.trans (mQ.below (B:=W0.heap.size) (fun q hq=>by omega) h0.drew.size)
       have sQ:=Lib.hid qj;clear mQ qj z1 f1 hx' QZ hon hkn;go_wp2_with fail;go_roundw
       case rel=>exact ⟨k+1,by omega,by go_num,sQ.out,h09⟩
       case measure=>simp [intOf];omega
      ·obtain rfl:k=(s.order n).lines.length:=by omega
       have hx2:=Lib.hid (show Bx wr base bx 31 [] V5 (jZ s (n+1)) by rw [← RN hlt hk'.out];exact hx'.out)
       go_wp2_with fail;go_roundw
       case rel=>exact ⟨n+1,by omega,by go_num,hx2.out,h0⟩
       case measure=>simp [intOf];omega
    ·have hq:((s.order n).kind==0)=false:=by simpa using hk
     have hx2:=Lib.hid (show Bx wr base bx 31 [] V5 (jZ s (n+1)) by rw [Oj hlt hk];exact hx'.out)
     clear hk;go_wp2_with fail;go_roundw
     case rel=>exact ⟨n+1,by omega,by go_num,hx2.out,h0⟩
     case measure=>simp [intOf];omega
   ·obtain rfl:n=s.orders.length:=by omega
    have hx6:=Lib.hid (show Bx wr base bx 31 [] V5 (dH p 0 (fQ s)) by rw [← RJ];exact hx'.out)
    have c1:=hx'.out.cells.2.1;rw [yt.out] at c1
    clear hx';go_wp2_with fail;clear c1;have h06:=h0;clear h0;go_loopw [69,11,12,13] (fun i _ _ _ wr=>∃ (n:Nat) (V:SV),V={V5 with holds:=V.holds}∧n≤s.orders.length∧i=.int .i64 n∧Bx wr base bx 31 [] V (dH p n (fQ s))∧Below W0.heap.size W0 wr) (fun i _ _ _ _=>s.orders.length - (intOf i).toNat)
    case atStart=>exact ⟨0,V5,rfl,aT _,rfl,hx6.out,h06⟩
    case round=>
     clear hx6 h06;obtain ⟨n,V,Xo,hn,rfl,hx,h0⟩:=hrel;have hx':=Lib.hid hx;have Ji:=Lib.hid (show V.orders=.slice Ao s.orders.length co by rw [Xo];exact yt.out)
     have DW:=Lib.hid Xo;clear hx Xo;by_cases hlt:n<s.orders.length
     ·have hni:(n:Int)<(s.orders.length:Int):=by omega
      have l13:=hsn.out.jX hlt;obtain ⟨hrt,hlen,zI⟩:=Fa (p:=p) hc'.out hn;have EH:n<(dH p n (fQ s)).orders.length:=by rw [hlen];exact hlt
      have hln:=zI n hlt;obtain ⟨go,_,_,eo,-⟩:=hx'.out.own.ay EH;rw [Ji.out] at eo
      injection eo with eo e2 e3
      subst eo;clear e2 e3;obtain ⟨hgo,jdH,z0,z1⟩:=hx'.out.own.iC EH Ji.out;obtain ⟨gl,cl,e1,hgl⟩:=hx'.out.own.tC EH (by rw [hln];omega)
      rw [hln] at e1
      rw [e1] at z1
      have e1':=Lib.hid e1;have hl0:=Lib.hid h0;generalize hkd:((dH p n (fQ s)).order n).kind=kd at z0
      have Nv:=Lib.hid hkd;clear hkd hrt hlen zI EH hln e1;by_cases hk:kd=1
      ·subst hk;have h0a:=h0.alloc h0.size (.cells #[.int .i64 1,.slice (some ⟨gl,0,none⟩) (s.order n).lines.length cl] 42);have hxa:=Lib.hid (hx'.out.below ((aj wr.heap.size wr).alloc (aA _) (.cells #[.int .i64 1,.slice (some ⟨gl,0,none⟩) (s.order n).lines.length cl] 42)));go_wp2_with fail;clear z0 z1 h0 hl0 hx';generalize wr.heap.size=wo;generalize wr.alloc (.cells #[.int .i64 1,.slice (some ⟨gl,0,none⟩) (s.order n).lines.length cl] 42)=wa at h0a hxa ⊢
       go_loopw [80,13] (fun i _ wr=>∃ (k:Nat) (V:SV),V={V5 with holds:=V.holds}∧k≤(s.order n).lines.length∧i=.int .i64 k∧Bx wr base bx 31 [] V (uO p s n k)∧Below W0.heap.size W0 wr) (fun i _ _=>(s.order n).lines.length - (intOf i).toNat)
       case atStart=>exact ⟨0,V,DW.out,aT _,rfl,hxa.out,h0a⟩
       case round=>
        clear hxa h0a Ji DW e1' V;obtain ⟨k,V,Xo,hkl,rfl,hx,h0⟩:=hrel;have hx':=Lib.hid hx;have Ji:=Lib.hid (show V.orders=.slice (some ⟨go,0,none⟩) s.orders.length co by rw [Xo];exact yt.out)
        have DW:=Lib.hid Xo;clear hx Xo;by_cases hkt:k<(s.order n).lines.length
        ·have hki:(k:Int)<((s.order n).lines.length:Int):=by omega
         obtain ⟨hrt,hlen,_,hln⟩:=Fb hc'.out hlt Nv.out hkl;have hmay:=Lib.hid (Yp hc'.out hlt Nv.out hkt);have Y7:=Lib.hid hrt;have hon:n<(uO p s n k).orders.length:=by rw [hlen];exact hlt
         have hkn:k<((uO p s n k).order n).lines.length:=by rw [hln];exact hkt
         obtain ⟨_,_,_,z1⟩:=hx'.out.own.iC hon Ji.out;obtain ⟨gl2,cl2,e1,jn8⟩:=hx'.out.own.tC hon (by rw [hln];omega)
         rw [hln] at e1
         rw [e1] at z1
         obtain ⟨TS,f0,f1,f2,f3⟩:=hx'.out.own.jV hon hkn e1;have c1:=hx'.out.cells.2.1;rw [Ji.out] at c1
         have hxd:=Lib.hid hx'.out.drew;have hBd:=hb0.trans (h0.drew.mono hb0.size);have e1':=Lib.hid e1;obtain ⟨⟨y0,y1⟩,x0,x1,x2,x3,x4,x5,x6,aV,aW⟩:=hK.out wr (h0);clear f0 f1 f2 hrt hlen hln hon hkn e1 x0 x1 x2 x3 x4 x5 x6 aV;go_wp2_with fail;go_still_tail 13,(by kernel_rfl)
         change wpList _ _ _ _ _ wr.drew;clear y0 y1 aW z1 f3 c1;go_wp2_with fail;refine (jcc wr.drew _ p (uO p s n k) n k _ (-1) (hP'.out _ hBd) Y7.out hmay.out hxd.out (by have:=h0.size;show base≤wr.heap.size;omega)).mono ?_
         rintro e w9 ⟨rfl,V9,hV9,qj,mQ⟩;have h09:=h0.drew.trans (mQ.below (B:=W0.heap.size) (fun q hq=>by
          rcases hq with rfl|hq
          ·omega
          ·rw [e1'.out] at hq
           change some gl2=some q at hq
           injection hq with hq
           omega) h0.drew.size)
         have jgz:=Lib.hid (Ql hV9 DW.out);have sQ:=Lib.hid (show Bx w9 base bx 31 [] V9 (uO p s n (k+1)) from qj)
         clear qj mQ hV9 hxd hx' DW Ji hmay Y7 e1';go_wp2_with fail;go_roundw
         case rel=>exact ⟨k+1,V9,jgz.out,by omega,by go_num,sQ.out,h09⟩
         case measure=>simp [intOf];omega
        ·obtain rfl:k=(s.order n).lines.length:=by omega
         have hx2:=Lib.hid (show Bx wr base bx 31 [] V (dH p (n+1) (fQ s)) by rw [← Yo hc'.out hlt Nv.out];exact hx'.out)
         go_wp2_with fail;go_roundw
         case rel=>exact ⟨n+1,V,DW.out,by omega,by go_num,hx2.out,h0⟩
         case measure=>simp [intOf];omega
      ·have hq:(kd!=1)=true:=by simpa using hk
       have h0a:=h0.alloc h0.size (.cells #[.int .i64 kd,.slice (some ⟨gl,0,none⟩) (s.order n).lines.length cl] 42);have hxa:=Lib.hid (show Bx _ base bx 31 [] V (dH p (n+1) (fQ s)) by rw [jco (by rw [Nv.out];exact hk)];exact (hx'.out.below ((aj wr.heap.size wr).alloc (aA _) (.cells #[.int .i64 kd,.slice (some ⟨gl,0,none⟩) (s.order n).lines.length cl] 42))))
       clear hk;go_wp2_with fail;go_roundw
       case rel=>exact ⟨n+1,V,DW.out,by omega,by go_num,hxa.out,h0a⟩
       case measure=>simp [intOf];omega
     ·obtain rfl:n=s.orders.length:=by omega
      have hB0:=hb0.trans (h0.mono hb0.size);have hx2:=Lib.hid (show Bx wr base bx 31 [] V (uN p s) from hx'.out)
      clear hx';have aX:=hR.out _ h0;obtain ⟨b0,b1,b2,b3,b4,b5,b6⟩:=dN.cells hx2.out.kW;have eU:=aO.one hx2.out.own;go_wp2_with (refine aK (.tmp 4) (.tmp 99) aP V rfl aX rfl eU (fun w9 aN dh=>?_))
      have ng:=aO.keptBy hx2.out.own dh aX (by decide) (by decide) (by decide) (by decide) (by decide) (by decide)
      have aQ:=Below.bG hB0 dh;clear b0 b1 b2 b3 b4 b5 b6;go_wp2_with fail;exact dn results46 aN rfl rfl (wH hfin.out (ng.from_ hle) aQ)
 ·have hne:(checkState p s!=0)=true:=by simpa using hc
  have hfin:=Lib.hid (NV hc);clear hc;have aX:=hR.out _ h1;go_wp2_with (refine aK (.tmp 4) (.tmp 19) aP aP rfl aX rfl rfl (fun w9 aN dh=>?_))
  have aQ:=Below.bG hB1 dh;go_wp2_with fail;exact dn results46 aN rfl rfl (dF hfin.out aQ)
end Wh
namespace Wh
open Go Go.RowKit Go.Shelf Go.Proofs Tryz
attribute [local go_sem] au
theorem jeP (w:World) (v:Value) (l:List Hold) (o ln b n:Int) (hv:Sl bM w w.heap.size v l) (hok:bQ l=true) (hkey:jL o ln b):
  Calls prog 73 #[v,.int .i64 o,.int .i64 ln,.int .i64 b,.int .i64 n] w (Gives (fun u w'=>Own bM 4 46 w' w.heap.size u (dA l ⟨o,ln,b,n⟩)) w):=by
 obtain ⟨A,c,rfl,_,hA⟩:=hv;obtain ⟨x,hx⟩:∃ x:Hold,x=⟨o,ln,b,n⟩:=⟨_,rfl⟩;have hlen:=Np hok;have hkx:jL x.order x.line x.bin:=by rw [hx];exact hkey
 have hr:=(bC.1 hok).2;have hkl:∀ k,k<l.length→jL (hold l k).order (hold l k).line (hold l k).bin:=fun k hk=>zH hok hk
 have ho:o=x.order:=by rw [hx]
 have hln:ln=x.line:=by rw [hx]
 have hbb:b=x.bin:=by rw [hx]
 have hnn:n=x.n:=by rw [hx]
 rw [← hx];subst ho hln hbb hnn;have hb0:Below w.heap.size w (w.alloc (.cells #[.int .i64 (x).order,.int .i64 (x).line,.int .i64 (x).bin,.int .i64 (x).n] 46)):=(aj _ _).alloc (aA _) _;have OH:=Lib.hid hkx;have hkl':=Lib.hid hkl;have hr':=Lib.hid hr;clear hx hkey hkx hkl hr hok;go_enter func73,ntmps73
 go_wp2_with fail;obtain ⟨W0,hW0⟩:∃ W0,W0=w.alloc (.cells #[.int .i64 (x).order,.int .i64 (x).line,.int .i64 (x).bin,.int .i64 (x).n] 46):=⟨_,rfl⟩;have hWr:w.alloc (.cells #[.int .i64 (x).order,.int .i64 (x).line,.int .i64 (x).bin,.int .i64 (x).n] 46)=W0:=hW0.symm;simp only [hWr] at hb0 ⊢
 have hF:∀ W,Below W0.heap.size W0 W→∀ k,k<l.length→(okA A∧dD A<W.heap.size∧W.cell? ⟨dD A,jy A+k*4,none⟩=some (.int .i64 (hold l k).order)∧W.cell? ⟨dD A,jy A+k*4+1,none⟩=some (.int .i64 (hold l k).line)∧
   W.cell? ⟨dD A,jy A+k*4+2,none⟩=some (.int .i64 (hold l k).bin)∧W.cell? ⟨dD A,jy A+k*4+3,none⟩=some (.int .i64 (hold l k).n)):=fun W hW k hk=>by
  have hB:=hb0.trans (hW.mono hb0.size);exact (hA.up hB hB.size).hold hk
 have hX:∀ W,Below W0.heap.size W0 W→(w.heap.size<W.heap.size∧W.cell? ⟨w.heap.size,0,none⟩=some (.int .i64 x.order)∧W.cell? ⟨w.heap.size,1,none⟩=some (.int .i64 x.line)∧W.cell? ⟨w.heap.size,2,none⟩=some (.int .i64 x.bin)∧W.cell? ⟨w.heap.size,3,none⟩=some (.int .i64 x.n)):=fun W hW=>by
  have hsz:w.heap.size<W0.heap.size:=by rw [hW0];simp
  exact ⟨aZ hsz hW.size,(hW.cell (p:=⟨w.heap.size,0,none⟩) hsz).trans (by rw [hW0];simp),(hW.cell (p:=⟨w.heap.size,1,none⟩) hsz).trans (by rw [hW0];simp),(hW.cell (p:=⟨w.heap.size,2,none⟩) hsz).trans (by rw [hW0];simp),(hW.cell (p:=⟨w.heap.size,3,none⟩) hsz).trans (by rw [hW0];simp)⟩
 have hF':=Lib.hid hF;have hX':=Lib.hid hX;have hbase:w.heap.size≤W0.heap.size:=hb0.size;clear hF hX hW0 hWr hA;have hd0:(x.n==0)=ny l x 0:=by rw [(NT l x).2,GV];simp
 rw [hd0];clear hd0;go_loopw [12,13,14] (fun u d i wr=>∃ k:Nat,k≤l.length∧i=.int .i64 k∧d=.bool (ny l x k)∧Own bM 4 46 wr W0.heap.size u (jB l x k)∧Below W0.heap.size W0 wr) (fun _ _ i _=>l.length - (intOf i).toNat)
 case atStart=>exact ⟨0,aT _,rfl,rfl,by rw [(NT l x).1];exact Own.nil,aj _ _⟩
 case round=>
  obtain ⟨k,hk,rfl,rfl,hown,hbw⟩:=hrel;have hwl:=Jy l x k;by_cases hlt:k<l.length
  ·have hwl1:=Jy l x (k+1);obtain ⟨joX,EX,b0,b1,b2,b3⟩:=hF'.out wr hbw k hlt;obtain ⟨hBz,y0,y1,y2,y3⟩:=hX'.out wr hbw;have q0:=fun o d os=>aG (w:=wr) (b:=w.heap.size) hBz o d os
   have qA:=fun o d os=>aG (w:=wr) (b:=dD A) EX o d os
   cases hd:ny l x k
   ·rcases LJ (place (hold l k)) (place x) with hp|hp|hp
    ·obtain ⟨hw1,hd1⟩:=GZ hr'.out hlt hp;rw [hd] at hd1
     have MC:=Lib.hid hw1;have H8:=Lib.hid hd1;have hp1:¬ (place x≤place (hold l k)):=by omega
     have hnb:(place (hold l k)!=place x)=true:=by simp;omega
     clear hw1 hd1 hd hp;go_wp2_with fail;refine aJ (by kernel_rfl) (by kernel_rfl) ?_
     repeat (go_big_quiet_step ((go_at_call 125;refine bD (wU _ _ (by first|exact OH.out|exact hkl'.out k hlt)))))
     refine wpQuiet_nil ?_
     intro W2 hw';have hb2:=aI hw';clear hw';have hbw2:=hbw.trans (hb2.mono hbw.size);have hown2:=hown.below hb2;clear q0 qA b0 b1 b2 b3 y0 y1 y2 y3;obtain ⟨Zv,NC,b0,b1,b2,b3⟩:=hF'.out W2 hbw2 k hlt;obtain ⟨Rz,y0,y1,y2,y3⟩:=hX'.out W2 hbw2;have q0:=fun o d os=>aG (w:=W2) (b:=w.heap.size) Rz o d os
     have qA:=fun o d os=>aG (w:=W2) (b:=dD A) NC o d os
     go_wp2_with fail;refine aJ (by kernel_rfl) (by kernel_rfl) ?_
     repeat (go_big_quiet_step ((go_at_call 125;refine bD (wU _ _ (by first|exact OH.out|exact hkl'.out k hlt)))))
     refine wpQuiet_nil ?_
     intro W5 hw';have hb5:=aI hw';clear hw';have Cc:=hbw2.trans (hb5.mono hbw2.size);have hown5:=hown2.below hb5;clear q0 qA b0 b1 b2 b3 y0 y1 y2 y3;obtain ⟨jgO,jlx,b0,b1,b2,b3⟩:=hF'.out W5 Cc k hlt;go_wp2_with (at_builtin;refine aU ?_)
     unfold Hid;refine gK _ rfl (.tmp 52) (.tmp 57) 28 46 rfl W0.heap.size _ 4 32 underlying28 ou rfl (by decide) (by decide) _ (jB l x k) (hold l k) rfl (hown5.alloc _) ⟨W5.heap.size,0,none⟩ 1 rfl rfl (kT _ _ _) (pG _) (by omega) (by have:=Cc.size;simp;omega) ?_
     intro v7 w7 qy O5 Rw zB;have Nz:=(Cc.alloc Cc.size (.cells #[.int .i64 (hold l k).order,.int .i64 (hold l k).line,.int .i64 (hold l k).bin,.int .i64 (hold l k).n] 46)).trans zB;go_wp2_with fail;go_roundw
     case rel=>exact ⟨k+1,by omega,by go_num,by rw [H8.out],by rw [MC.out];exact qy,Nz⟩
     case measure=>simp [intOf];omega
    ·have hw1:=X6 hlt hp hd;have hd1:=MO hlt (show place x≤place (hold l k) by omega)
     have MC:=Lib.hid hw1;have H8:=Lib.hid hd1;have hnb:(place (hold l k)!=place x)=false:=by simp;omega
     have hp1:place x≤place (hold l k):=by omega
     clear hw1 hd1 hd hp;go_wp2_with fail;refine aJ (by kernel_rfl) (by kernel_rfl) ?_
     repeat (go_big_quiet_step ((go_at_call 125;refine bD (wU _ _ (by first|exact OH.out|exact hkl'.out k hlt)))))
     refine wpQuiet_nil ?_
     intro W2 hw';have hb2:=aI hw';clear hw';have hbw2:=hbw.trans (hb2.mono hbw.size);have hown2:=hown.below hb2;clear q0 qA b0 b1 b2 b3 y0 y1 y2 y3;obtain ⟨jra,y0,y1,y2,y3⟩:=hX'.out W2 hbw2;go_wp2_with (at_builtin;refine aU ?_)
     unfold Hid;refine gK _ rfl (.tmp 40) (.tmp 42) 28 46 rfl W0.heap.size _ 4 32 underlying28 ou rfl (by decide) (by decide) _ (jB l x k) x rfl (hown2.alloc _) ⟨W2.heap.size,0,none⟩ 1 rfl rfl (kT _ _ _) (pG x) (by omega) (by have:=hbw2.size;simp;omega) ?_
     intro v3 w3 hown3 hg3 jqQ jgu;have hbw3:=(hbw2.alloc hbw2.size (.cells #[.int .i64 (x).order,.int .i64 (x).line,.int .i64 (x).bin,.int .i64 (x).n] 46)).trans jgu;clear y0 y1 y2 y3;obtain ⟨Zv,NC,b0,b1,b2,b3⟩:=hF'.out w3 hbw3 k hlt;obtain ⟨Rz,y0,y1,y2,y3⟩:=hX'.out w3 hbw3;have q0:=fun o d os=>aG (w:=w3) (b:=w.heap.size) Rz o d os
     have qA:=fun o d os=>aG (w:=w3) (b:=dD A) NC o d os
     go_wp2_with fail;refine aJ (by kernel_rfl) (by kernel_rfl) ?_
     repeat (go_big_quiet_step ((go_at_call 125;refine bD (wU _ _ (by first|exact OH.out|exact hkl'.out k hlt)))))
     refine wpQuiet_nil ?_
     intro W5 hw';have hb5:=aI hw';clear hw';have Cc:=hbw3.trans (hb5.mono hbw3.size);have hown5:=hown3.below hb5;clear q0 qA b0 b1 b2 b3 y0 y1 y2 y3;go_wp2_with fail;go_roundw
     case rel=>exact ⟨k+1,by omega,by go_num,by rw [H8.out],by rw [MC.out];exact hown5,Cc⟩
     case measure=>simp [intOf];omega
    ·have hw1:=Tn hlt hp hd;have hd1:=MO hlt (show place x≤place (hold l k) by omega)
     have hwl2:(jB l x k++[x]).length≤146:=by rw [dK];simp;omega
     have MC:=Lib.hid hw1;have H8:=Lib.hid hd1;have hp1:place x≤place (hold l k):=by omega
     have hnb:(place (hold l k)!=place x)=true:=by simp;omega
     clear hw1 hd1 hd hp;go_wp2_with fail;refine aJ (by kernel_rfl) (by kernel_rfl) ?_
     repeat (go_big_quiet_step ((go_at_call 125;refine bD (wU _ _ (by first|exact OH.out|exact hkl'.out k hlt)))))
     refine wpQuiet_nil ?_
     intro W2 hw';have hb2:=aI hw';clear hw';have hbw2:=hbw.trans (hb2.mono hbw.size);have hown2:=hown.below hb2;clear q0 qA b0 b1 b2 b3 y0 y1 y2 y3;obtain ⟨jra,y0,y1,y2,y3⟩:=hX'.out W2 hbw2;go_wp2_with (at_builtin;refine aU ?_)
     unfold Hid;refine gK _ rfl (.tmp 40) (.tmp 42) 28 46 rfl W0.heap.size _ 4 32 underlying28 ou rfl (by decide) (by decide) _ (jB l x k) x rfl (hown2.alloc _) ⟨W2.heap.size,0,none⟩ 1 rfl rfl (kT _ _ _) (pG x) (by omega) (by have:=hbw2.size;simp;omega) ?_
     intro v3 w3 hown3 hg3 jqQ jgu;have hbw3:=(hbw2.alloc hbw2.size (.cells #[.int .i64 (x).order,.int .i64 (x).line,.int .i64 (x).bin,.int .i64 (x).n] 46)).trans jgu;clear y0 y1 y2 y3;obtain ⟨Zv,NC,b0,b1,b2,b3⟩:=hF'.out w3 hbw3 k hlt;obtain ⟨Rz,y0,y1,y2,y3⟩:=hX'.out w3 hbw3;have q0:=fun o d os=>aG (w:=w3) (b:=w.heap.size) Rz o d os
     have qA:=fun o d os=>aG (w:=w3) (b:=dD A) NC o d os
     go_wp2_with fail;refine aJ (by kernel_rfl) (by kernel_rfl) ?_
     repeat (go_big_quiet_step ((go_at_call 125;refine bD (wU _ _ (by first|exact OH.out|exact hkl'.out k hlt)))))
     refine wpQuiet_nil ?_
     intro W5 hw';have hb5:=aI hw';clear hw';have Cc:=hbw3.trans (hb5.mono hbw3.size);have hown5:=hown3.below hb5;clear q0 qA b0 b1 b2 b3 y0 y1 y2 y3;obtain ⟨jgO,jlx,b0,b1,b2,b3⟩:=hF'.out W5 Cc k hlt;go_wp2_with (at_builtin;refine aU ?_)
     unfold Hid;refine gK _ rfl (.tmp 52) (.tmp 57) 28 46 rfl W0.heap.size _ 4 32 underlying28 ou rfl (by decide) (by decide) _ (jB l x k++[x]) (hold l k) rfl (hown5.alloc _) ⟨W5.heap.size,0,none⟩ 1 rfl rfl (kT _ _ _) (pG _) (by omega) (by have:=Cc.size;simp;omega) ?_
     intro v7 w7 qy O5 Rw zB;have Nz:=(Cc.alloc Cc.size (.cells #[.int .i64 (hold l k).order,.int .i64 (hold l k).line,.int .i64 (hold l k).bin,.int .i64 (hold l k).n] 46)).trans zB;go_wp2_with fail;go_roundw
     case rel=>exact ⟨k+1,by omega,by go_num,by rw [H8.out],by rw [MC.out];exact qy,Nz⟩
     case measure=>simp [intOf];omega
   ·rcases LJ (place (hold l k)) (place x) with hp|hp|hp
    ·obtain ⟨hw1,hd1⟩:=GZ hr'.out hlt hp;rw [hd] at hd1
     have MC:=Lib.hid hw1;have H8:=Lib.hid hd1;have hp1:¬ (place x≤place (hold l k)):=by omega
     have hnb:(place (hold l k)!=place x)=true:=by simp;omega
     clear hw1 hd1 hd hp;go_wp2_with fail;refine aJ (by kernel_rfl) (by kernel_rfl) ?_
     repeat (go_big_quiet_step ((go_at_call 125;refine bD (wU _ _ (by first|exact OH.out|exact hkl'.out k hlt)))))
     refine wpQuiet_nil ?_
     intro W2 hw';have hb2:=aI hw';clear hw';have hbw2:=hbw.trans (hb2.mono hbw.size);have hown2:=hown.below hb2;clear q0 qA b0 b1 b2 b3 y0 y1 y2 y3;obtain ⟨Zv,NC,b0,b1,b2,b3⟩:=hF'.out W2 hbw2 k hlt;obtain ⟨Rz,y0,y1,y2,y3⟩:=hX'.out W2 hbw2;have q0:=fun o d os=>aG (w:=W2) (b:=w.heap.size) Rz o d os
     have qA:=fun o d os=>aG (w:=W2) (b:=dD A) NC o d os
     go_wp2_with fail;refine aJ (by kernel_rfl) (by kernel_rfl) ?_
     repeat (go_big_quiet_step ((go_at_call 125;refine bD (wU _ _ (by first|exact OH.out|exact hkl'.out k hlt)))))
     refine wpQuiet_nil ?_
     intro W5 hw';have hb5:=aI hw';clear hw';have Cc:=hbw2.trans (hb5.mono hbw2.size);have hown5:=hown2.below hb5;clear q0 qA b0 b1 b2 b3 y0 y1 y2 y3;obtain ⟨jgO,jlx,b0,b1,b2,b3⟩:=hF'.out W5 Cc k hlt;go_wp2_with (at_builtin;refine aU ?_)
     unfold Hid;refine gK _ rfl (.tmp 52) (.tmp 57) 28 46 rfl W0.heap.size _ 4 32 underlying28 ou rfl (by decide) (by decide) _ (jB l x k) (hold l k) rfl (hown5.alloc _) ⟨W5.heap.size,0,none⟩ 1 rfl rfl (kT _ _ _) (pG _) (by omega) (by have:=Cc.size;simp;omega) ?_
     intro v7 w7 qy O5 Rw zB;have Nz:=(Cc.alloc Cc.size (.cells #[.int .i64 (hold l k).order,.int .i64 (hold l k).line,.int .i64 (hold l k).bin,.int .i64 (hold l k).n] 46)).trans zB;go_wp2_with fail;go_roundw
     case rel=>exact ⟨k+1,by omega,by go_num,by rw [H8.out],by rw [MC.out];exact qy,Nz⟩
     case measure=>simp [intOf];omega
    ·have hw1:=X5 hr'.out hlt hp hd;have hd1:=MO hlt (show place x≤place (hold l k) by omega)
     have MC:=Lib.hid hw1;have H8:=Lib.hid hd1;have hnb:(place (hold l k)!=place x)=false:=by simp;omega
     have hp1:place x≤place (hold l k):=by omega
     clear hw1 hd1 hd hp;go_wp2_with fail;refine aJ (by kernel_rfl) (by kernel_rfl) ?_
     repeat (go_big_quiet_step ((go_at_call 125;refine bD (wU _ _ (by first|exact OH.out|exact hkl'.out k hlt)))))
     refine wpQuiet_nil ?_
     intro W2 hw';have hb2:=aI hw';clear hw';have hbw2:=hbw.trans (hb2.mono hbw.size);have hown2:=hown.below hb2;clear q0 qA b0 b1 b2 b3 y0 y1 y2 y3;obtain ⟨Zv,NC,b0,b1,b2,b3⟩:=hF'.out W2 hbw2 k hlt;obtain ⟨Rz,y0,y1,y2,y3⟩:=hX'.out W2 hbw2;have q0:=fun o d os=>aG (w:=W2) (b:=w.heap.size) Rz o d os
     have qA:=fun o d os=>aG (w:=W2) (b:=dD A) NC o d os
     go_wp2_with fail;refine aJ (by kernel_rfl) (by kernel_rfl) ?_
     repeat (go_big_quiet_step ((go_at_call 125;refine bD (wU _ _ (by first|exact OH.out|exact hkl'.out k hlt)))))
     refine wpQuiet_nil ?_
     intro W5 hw';have hb5:=aI hw';clear hw';have Cc:=hbw2.trans (hb5.mono hbw2.size);have hown5:=hown2.below hb5;clear q0 qA b0 b1 b2 b3 y0 y1 y2 y3;go_wp2_with fail;go_roundw
     case rel=>exact ⟨k+1,by omega,by go_num,by rw [H8.out],by rw [MC.out];exact hown5,Cc⟩
     case measure=>simp [intOf];omega
    ·have hw1:=Tm hlt hp hd;have hd1:=MO hlt (show place x≤place (hold l k) by omega)
     have MC:=Lib.hid hw1;have H8:=Lib.hid hd1;have hp1:place x≤place (hold l k):=by omega
     have hnb:(place (hold l k)!=place x)=true:=by simp;omega
     clear hw1 hd1 hd hp;go_wp2_with fail;refine aJ (by kernel_rfl) (by kernel_rfl) ?_
     repeat (go_big_quiet_step ((go_at_call 125;refine bD (wU _ _ (by first|exact OH.out|exact hkl'.out k hlt)))))
     refine wpQuiet_nil ?_
     intro W2 hw';have hb2:=aI hw';clear hw';have hbw2:=hbw.trans (hb2.mono hbw.size);have hown2:=hown.below hb2;clear q0 qA b0 b1 b2 b3 y0 y1 y2 y3;obtain ⟨Zv,NC,b0,b1,b2,b3⟩:=hF'.out W2 hbw2 k hlt;obtain ⟨Rz,y0,y1,y2,y3⟩:=hX'.out W2 hbw2;have q0:=fun o d os=>aG (w:=W2) (b:=w.heap.size) Rz o d os
     have qA:=fun o d os=>aG (w:=W2) (b:=dD A) NC o d os
     go_wp2_with fail;refine aJ (by kernel_rfl) (by kernel_rfl) ?_
     repeat (go_big_quiet_step ((go_at_call 125;refine bD (wU _ _ (by first|exact OH.out|exact hkl'.out k hlt)))))
     refine wpQuiet_nil ?_
     intro W5 hw';have hb5:=aI hw';clear hw';have Cc:=hbw2.trans (hb5.mono hbw2.size);have hown5:=hown2.below hb5;clear q0 qA b0 b1 b2 b3 y0 y1 y2 y3;obtain ⟨jgO,jlx,b0,b1,b2,b3⟩:=hF'.out W5 Cc k hlt;go_wp2_with (at_builtin;refine aU ?_)
     unfold Hid;refine gK _ rfl (.tmp 52) (.tmp 57) 28 46 rfl W0.heap.size _ 4 32 underlying28 ou rfl (by decide) (by decide) _ (jB l x k) (hold l k) rfl (hown5.alloc _) ⟨W5.heap.size,0,none⟩ 1 rfl rfl (kT _ _ _) (pG _) (by omega) (by have:=Cc.size;simp;omega) ?_
     intro v7 w7 qy O5 Rw zB;have Nz:=(Cc.alloc Cc.size (.cells #[.int .i64 (hold l k).order,.int .i64 (hold l k).line,.int .i64 (hold l k).bin,.int .i64 (hold l k).n] 46)).trans zB;go_wp2_with fail;go_roundw
     case rel=>exact ⟨k+1,by omega,by go_num,by rw [H8.out],by rw [MC.out];exact qy,Nz⟩
     case measure=>simp [intOf];omega
  ·obtain rfl:k=l.length:=by omega
   obtain ⟨hBz,y0,y1,y2,y3⟩:=hX'.out wr hbw;cases hd:ny l x l.length
   ·have hfin:=Lib.hid (Vy hd);clear hd;go_wp2_with (at_builtin;refine aU ?_)
    unfold Hid;refine gK _ rfl (.tmp 61) (.tmp 63) 28 46 rfl W0.heap.size _ 4 32 underlying28 ou rfl (by decide) (by decide) _ (jB l x l.length) x rfl (hown.alloc _) ⟨wr.heap.size,0,none⟩ 1 rfl rfl (kT _ _ _) (pG x) (by omega) (by have:=hbw.size;simp;omega) ?_
    intro v9 w9 Y8 dh hat9 joq;go_wp2_with fail;go_ret
    refine ⟨_,rfl,?_,hb0.trans (((hbw.alloc hbw.size (.cells #[.int .i64 (x).order,.int .i64 (x).line,.int .i64 (x).bin,.int .i64 (x).n] 46)).trans joq).mono hbase)⟩
    rw [hfin.out];exact Y8.from_ hbase
   ·have hfin:=Lib.hid (Vw hd);clear hd;go_wp2_with fail;go_ret
    refine ⟨_,rfl,?_,hb0.trans (hbw.mono hbase)⟩
    rw [hfin.out];exact hown.from_ hbase
end Wh
namespace Wh
open Go Go.RowKit Go.Shelf Go.Proofs Tryz
attribute [local go_sem] au dQ dI dX
theorem jhf {w:World} {base:Nat} {V:SV} {s:State} (p:Plan) (Ab:Option Addr) (cb:Nat) (As:Option Addr) (cs:Nat) (ho:aO w base V s):
  ∃ W0:World,((w.alloc (.cells #[.slice Ab p.aH.length cb,.slice As p.sizes.length cs] 25)).alloc (.cells #[V.on,V.orders,V.holds,V.moves,V.inn,V.out,V.fixed] 31)).alloc (.cells #[.slice none 0 0,.slice none 0 0,.slice none 0 0,.slice none 0 0,.slice none 0 0,.slice none 0 0,.slice none 0 0] 31)=W0∧Below w.heap.size w W0∧
   W0.heap.size=w.heap.size+1+1+1∧dw W0 w.heap.size 25 [.slice Ab p.aH.length cb,.slice As p.sizes.length cs]∧Bx W0 base (w.heap.size+1) 31 [] V s∧dN W0 (w.heap.size+1+1) aP:=by
 have hb1:Below w.heap.size w (w.alloc (.cells #[.slice Ab p.aH.length cb,.slice As p.sizes.length cs] 25)):=(aj _ _).alloc (aA _) _;have h1:dw (w.alloc (.cells #[.slice Ab p.aH.length cb,.slice As p.sizes.length cs] 25)) w.heap.size 25 [.slice Ab p.aH.length cb,.slice As p.sizes.length cs]:=dw.new _ _ _;have h2:=dw.new (w.alloc (.cells #[.slice Ab p.aH.length cb,.slice As p.sizes.length cs] 25)) 31 #[V.on,V.orders,V.holds,V.moves,V.inn,V.out,V.fixed];rw [fP] at h2
 have h3:=dw.new ((w.alloc (.cells #[.slice Ab p.aH.length cb,.slice As p.sizes.length cs] 25)).alloc (.cells #[V.on,V.orders,V.holds,V.moves,V.inn,V.out,V.fixed] 31)) 31 #[.slice none 0 0,.slice none 0 0,.slice none 0 0,.slice none 0 0,.slice none 0 0,.slice none 0 0,.slice none 0 0];rw [fP,fP] at h3
 refine ⟨_,rfl,(hb1.alloc (by simp) _).alloc (by simp;omega) _,by simp,(h1.alloc _).alloc _,Bx.of (h2.alloc _) (((ho.below hb1).alloc _).alloc _),h3⟩
def jho (p:Plan) (s:State) (o k:Nat) (n but:Int) (w:World) (base:Nat) (V:SV) (e:Ending) (w':World):Prop:=
 ∃ V',V'={V with holds:=V'.holds}∧e=.returned (.tuple #[V'.val,.int .i64 (ji p s o k n but).2])∧aO w' base V' (ji p s o k n but).1∧Step (fun j=>(V.line o).ownBlock=some j) w w'
theorem jeR (w:World) (v:Value) (p:Plan) (s:State) (o k:Nat) (n but:Int) {base:Nat} {V:SV} (hp:fZ w w.heap.size v p) (hr:Right p s) (hm:May s o k n) (ho:aO w base V s) (hbase:base≤w.heap.size):
  Calls prog 74 #[v,V.val,.int .i64 o,.int .i64 k,.int .i64 n,.int .i64 but] w (jho p s o k n but w base V):=by
 obtain ⟨Ab,cb,As,cs,rfl,hP',hBn,hSz,hlb,hls⟩:=kN hp;change Calls prog 74 #[.agg #[.slice Ab p.aH.length cb,.slice As p.sizes.length cs],.agg #[V.on,V.orders,V.holds,V.moves,V.inn,V.out,V.fixed],.int .i64 o,.int .i64 k,.int .i64 n,.int .i64 but] w _;obtain ⟨gl,cl,curl,e1,hgl,hblk,_⟩:=ho.bH hm.ho hm.hk;have hll:=hblk.lt;go_enter func74,ntmps74
 go_wp2_with fail;obtain ⟨W0,hW0,hb0,hsE,hpl,hB0,hres⟩:=jhf p Ab cb As cs ho;rw [hW0];clear hW0 hblk;have y0:=hpl.cell (j:=0) rfl;have y1:=hpl.cell (j:=1) rfl;go_wp2_with fail;refine (jj9 _ _ p (hP'.out _ hb0) (by have:=hr.sane.counts;omega)).mono ?_
 rintro e W1 ⟨uw,rfl,Q5,h1⟩;obtain ⟨Aw,cw,rfl⟩:=Q5.isSlice;rw [sD] at Q5 ⊢
 have hB1:=Lib.hid (hB0.below h1);obtain ⟨jqA,f0,_,_,_⟩:=hB1.out.own.jV hm.ho hm.hk e1;obtain ⟨go,co,jg5,eo,hgo,Ib,z0,z1⟩:=hB1.out.own.ay hm.ho;obtain ⟨c0,c1,c2,c3,c4,c5,c6⟩:=hB1.out.cells;rw [eo] at c1
 rw [e1] at z1
 have hon:(o:Int)<(s.orders.length:Int):=by have:=hm.ho;omega
 have hkn:(k:Int)<((s.order o).lines.length:Int):=by have:=hm.hk;omega
 have hm':=Lib.hid hm;have hr':=Lib.hid hr;have Y4:=Lib.hid Q5;have jnM:=Lib.hid (hres.below h1 hres.lt);have hlw:(way p).length≤6:=by rw [Qg];exact hr.sane.counts.2.1
 have hl0:=h1.size;clear hm hr Q5 hB0 y0 y1 hP' hBn hSz hpl hres;go_wp2_with fail;clear c0 c1 c2 c3 c4 c5 c6 z0 z1 f0 jqA eo Ib;go_loopw [16,4,17,18] (fun i n' _ _ wr=>∃ (j:Nat) (s':State) (m:Int) (V':SV),V'={V with holds:=V'.holds}∧j≤(way p).length∧i=.int .i64 j∧n'=.int .i64 m∧Right p s'∧May s' o k m∧kJ o k but ((way p).drop j) s' m=ji p s o k n but∧
  Bx wr base (w.heap.size+1) 31 [] V' s'∧(s'.line o k).good=(s.line o k).good∧Step (fun j=>j=w.heap.size+1∨(V.line o).ownBlock=some j) W1 wr) (fun i _ _ _ _=>(way p).length - (intOf i).toNat)
 case atStart=>exact ⟨0,s,n,V,rfl,aT _,rfl,rfl,hr'.out,hm'.out,rfl,hB1.out,rfl,Step.refl _ _⟩
 case round=>
  clear hr' hm' hB1;obtain ⟨j,s',m,V',hsb,hj,rfl,rfl,hr,hm,htg,hBx,hgd,hst⟩:=hrel;have hr':=Lib.hid hr;have hm':=Lib.hid hm;have jfz:=Lib.hid htg;have jbP:=Lib.hid hBx;have hst':=Lib.hid hst;have hgd':=Lib.hid hgd;have hks:=Lib.hid (show ∀ j,(j=w.heap.size+1∨(V.line o).ownBlock=some j)→j≤w.heap.size+1 from fun j h=>by
   rcases h with rfl|h
   ·omega
   ·rw [e1] at h
    change some gl=some j at h
    injection h with h
    omega)
  by_cases hlt:j<(way p).length
  ·have hwb:=BK p _ (eF hlt);have hwr:=Y4.out.step hst (fun k hk jkV=>absurd (hks.out k jkV) (by have:=(Y4.out.size k hk).1;omega))
   obtain ⟨gw,cw',jrv,ew,hgw,hbw,zw⟩:=aO.qX hwr (g:=j) (by rw [sD];exact hlt)
   rw [V4 hlt] at zw
   obtain ⟨wb,jbg⟩:∃ x,x=(way p)[j]:=⟨_,rfl⟩;rw [← jbg] at zw hwb
   have jfv:=Lib.hid jbg;clear jbg;obtain rfl:Aw=some ⟨gw,0,none⟩:=by injection ew
   clear ew;have hgood:=Lib.hid (hr.sane.line hm.ho hm.hk);have hjl:(j:Int)<((way p).length:Int):=by omega
   have hr2:=Lib.hid hr.sane;have hbb:=Lib.hid (show 0≤(wb:Int)∧(wb:Int)<p.aH.length by omega)
   have MF:=Lib.hid hsb;have hdr:kJ o k but (wb::(way p).drop (j+1)) s' m=ji p s o k n but:=by rw [jfv.out,← drop_at hlt];exact jfz.out
   have hdr':=Lib.hid hdr;obtain ⟨c0,c1,c2,c3,c4,c5,c6⟩:=hBx.cells;clear hr hm htg hBx hst hwr hbw hsb hdr hgd;by_cases Js:(wb:Int)=but
   ·have hq:((wb:Int)==but)=true:=by simpa using Js
    have TP:=Lib.hid (show kJ o k but ((way p).drop (j+1)) s' m=ji p s o k n but by rw [← hdr'.out,pz (.inl Js)])
    clear Js;go_wp2_with fail;go_roundw
    case rel=>exact ⟨j+1,s',m,V',MF.out,by omega,by go_num,rfl,hr'.out,hm'.out,TP.out,jbP.out,hgd'.out,hst'.out⟩
    case measure=>simp [intOf];omega
   ·have hq:((wb:Int)==but)=false:=by simpa using Js
    have joh:=Lib.hid Js;clear Js;go_wp2_with fail;clear c0 c1 c2 c3 c4 c5 c6 zw;refine (Yx _ _ p s' wb (s.line o k).good (jbP.out.own.view hr2.out) hr2.out hbb.out (by rw [← hgd'.out];exact hgood.out.1)).mono ?_
    rintro e W6 ⟨rfl,hb6⟩;obtain ⟨mm,hmm⟩:∃ x,(if fC s' ↑wb (s.line o k).good<m then fC s' ↑wb (s.line o k).good else m)=x:=⟨_,rfl⟩
    have hmin:mm=min m (fC s' wb (s'.line o k).good):=by rw [← hmm,hgd'.out];split<;>omega
    have hav:=hm'.out.fC hr'.out hwb;have hmb:=hm'.out.back;have hm0:=hm'.out.n0;have hgb:=hgood.out;have hmr:mm≤m∧m≤200∧0≤mm∧mm≤fC s' wb (s'.line o k).good:=by omega
    have hbr:0≤(s'.line o k).back∧(s'.line o k).back≤200:=by omega
    have Hz:=Lib.hid (hst'.out.trans (.of_below hb6));have hBx6:=Lib.hid (jbP.out.below hb6);have hmin':=Lib.hid hmin;have jif:=Lib.hid hmr;clear hmin hav hmb hm0 hgb hmr;by_cases hge:1≤mm
    ·have hge0:0<mm:=by omega
     have hfit:=Lib.hid (hm'.out.fits hwb hge jif.out.1 jif.out.2.2.2);have TP:=Lib.hid (show kJ o k but ((way p).drop (j+1)) (kC s' o k wb mm) (m - mm)=ji p s o k n but by rw [← hdr'.out,xU joh.out (by rw [← hmin'.out];exact hge),← hmin'.out])
     have hlen:=jJ hr2.out.holds;have jbH:base≤W6.heap.size:=bJ hbase (bJ hb0.size (bJ hl0 (bJ hst'.out.size hb6.size)));have hkr:=EK hr'.out hfit.out;have hw0:IntKind.i64.wrap (aF s'.holds o k wb+mm)=aF s'.holds o k wb+mm:=bf _ (by omega)
     go_wp2_with fail;clear hmm;refine lT 15 [fun gq _=>gq 52=.pointer (some ⟨w.heap.size+1,2,none⟩),fun gq _=>gq 53=V'.holds,fun gq _=>gq 54=.int .i64 o,fun gq _=>gq 55=.int .i64 k,fun gq _=>gq 56=.int .i64 wb,fun gq _=>gq 57=.pointer (some ⟨w.heap.size+1,2,none⟩),fun gq _=>gq 58=V'.holds,fun gq _=>gq 59=.int .i64 o,fun gq _=>gq 60=.int .i64 k,fun gq _=>gq 61=.int .i64 wb,fun gq w'=>(fun v w'=>v=.int .i64 (aF s'.holds o k wb)) (gq 62) w',fun gq _=>gq 63=.int .i64 mm,fun gq _=>gq 64=.int .i64 (aF s'.holds o k wb+mm),fun gq w'=>(fun v w'=>Own bM 4 46 w' W6.heap.size v (kC s' o k wb mm).holds) (gq 65) w',fun gq _=>gq 66=.pointer (some ⟨w.heap.size+1,2,none⟩)] (by kernel_rfl) (by kernel_rfl) rfl (by kernel_rfl) ?_ (fun f w2 hb2 hR=>?_)
     simp only [eY,eG];refine bg.cons (dU.val rfl rfl (fun gq w' hb ho hd=>?_)) ?_
     ·have e7:=ho 7 rfl;go_simp
     refine bg.cons (dU.val rfl rfl (fun gq w' hb ho hd=>?_)) ?_
     ·have e52:gq 52=.pointer (some ⟨w.heap.size+1,2,none⟩):=hd ⟨0,.data⟩ (by simp) rfl (by decide)
      have x2:=(hBx6.out.below hb).cells.2.2.1;go_simp
     refine bg.cons (dU.val rfl rfl (fun gq w' hb ho hd=>?_)) ?_
     ·have e2:=ho 2 rfl;go_simp
     refine bg.cons (dU.val rfl rfl (fun gq w' hb ho hd=>?_)) ?_
     ·have e3:=ho 3 rfl;go_simp
     refine bg.cons (dU.val rfl rfl (fun gq w' hb ho hd=>?_)) ?_
     ·have e17:=ho 17 rfl;go_simp
     refine bg.cons (dU.val rfl rfl (fun gq w' hb ho hd=>?_)) ?_
     ·have e7:=ho 7 rfl;go_simp
     refine bg.cons (dU.val rfl rfl (fun gq w' hb ho hd=>?_)) ?_
     ·have e57:gq 57=.pointer (some ⟨w.heap.size+1,2,none⟩):=hd ⟨5,.data⟩ (by simp) rfl (by decide)
      have x2:=(hBx6.out.below hb).cells.2.2.1;go_simp
     refine bg.cons (dU.val rfl rfl (fun gq w' hb ho hd=>?_)) ?_
     ·have e2:=ho 2 rfl;go_simp
     refine bg.cons (dU.val rfl rfl (fun gq w' hb ho hd=>?_)) ?_
     ·have e3:=ho 3 rfl;go_simp
     refine bg.cons (dU.val rfl rfl (fun gq w' hb ho hd=>?_)) ?_
     ·have e17:=ho 17 rfl;go_simp
     refine bg.cons (dU.one (d:=62) (p:=(fun v w'=>v=.int .i64 (aF s'.holds o k wb))) rfl rfl (fun v w1 w2 h hb=>h) (fun gq w' hb ho hd=>?_)) ?_
     ·have e58:gq 58=V'.holds:=hd ⟨6,.data⟩ (by simp) rfl (by decide)
      have e59:gq 59=.int .i64 o:=hd ⟨7,.data⟩ (by simp) rfl (by decide)
      have e60:gq 60=.int .i64 k:=hd ⟨8,.data⟩ (by simp) rfl (by decide)
      have e61:gq 61=.int .i64 wb:=hd ⟨9,.data⟩ (by simp) rfl (by decide)
      have hs:=(hBx6.out.below hb).own.holds.sl (by omega)
      unfold dO;go_simp
      refine (VK w' _ s'.holds o k wb hs).mono ?_
      rintro e w2 ⟨rfl,rfl⟩;exact ⟨_,rfl,rfl,aj _ _⟩
     refine bg.cons (dU.val rfl rfl (fun gq w' hb ho hd=>?_)) ?_
     ·have e18:=ho 18 rfl;go_simp
     refine bg.cons (dU.val rfl rfl (fun gq w' hb ho hd=>?_)) ?_
     ·have e62:(gq 62)=.int .i64 (aF s'.holds o k wb):=hd ⟨10,.data⟩ (by simp) rfl (by decide)
      have e63:gq 63=.int .i64 mm:=hd ⟨11,.data⟩ (by simp) rfl (by decide)
      go_simp
     refine bg.cons (dU.one (d:=65) (p:=(fun v w'=>Own bM 4 46 w' W6.heap.size v (kC s' o k wb mm).holds)) rfl rfl (fun v w1 w2 h hb=>h.below hb) (fun gq w' hb ho hd=>?_)) ?_
     ·have e53:gq 53=V'.holds:=hd ⟨1,.data⟩ (by simp) rfl (by decide)
      have e54:gq 54=.int .i64 o:=hd ⟨2,.data⟩ (by simp) rfl (by decide)
      have e55:gq 55=.int .i64 k:=hd ⟨3,.data⟩ (by simp) rfl (by decide)
      have e56:gq 56=.int .i64 wb:=hd ⟨4,.data⟩ (by simp) rfl (by decide)
      have e64:gq 64=.int .i64 (aF s'.holds o k wb+mm):=hd ⟨12,.data⟩ (by simp) rfl (by decide)
      have hs:=(hBx6.out.below hb).own.holds.sl (by omega)
      unfold dO;go_simp
      refine (jeP w' _ s'.holds o k wb _ hs hr2.out.holds (Cb hr2.out hm'.out.ho hm'.out.hk hwb)).mono ?_
      rintro e w2 ⟨u,rfl,hu,hb2⟩;exact ⟨u,rfl,hu.from_ hb.size,hb2⟩
     refine bg.cons (dU.val rfl rfl (fun gq w' hb ho hd=>?_)) ?_
     ·have e7:=ho 7 rfl;go_simp
     exact bg.nil;obtain ⟨r52,r53,r54,r55,r56,r57,r58,r59,r60,r61,r62,r63,r64,r65,r66,_⟩:=hR;replace r62:(f 62)=.int .i64 (aF s'.holds o k wb):=r62;replace r65:Own bM 4 46 w2 W6.heap.size (f 65) (kC s' o k wb mm).holds:=r65;simp only [fU,qZ,eY,eG,lF,mG,mF,mD,jH,mg,iW,iy,iJ,r52,r53,r54,r55,r56,r57,r58,r59,r60,r61,r62,r63,r64,r66];clear r52 r53 r54 r55 r56 r57 r58 r59 r60 r61 r62 r63 r64 r66;obtain ⟨A7,c7,hv7⟩:=r65.isSlice;rw [hv7] at r65
     simp only [hv7];have hBx7:=Lib.hid (hBx6.out.below hb2);have hu7:=Lib.hid (r65.from_ jbH);clear r65 hv7;refine zk rfl (.tmp 66) (.tmp 65) rfl rfl A7 _ c7 _ hBx7.out rfl rfl hu7.out (fun w8 EI qJ=>?_)
     refine gy ?_
     have hv8:V'.line o=.slice (some ⟨gl,0,none⟩) (s.order o).lines.length cl:=by rw [MF.out];exact e1
     obtain ⟨jn6,f0,f1,f2,f3⟩:=EI.own.jV (s:={s' with holds:=(kC s' o k wb mm).holds}) hm'.out.ho hm'.out.hk hv8
     obtain ⟨go8,co8,curo8,eo8,hgo8,jld,z0,z1⟩:=EI.own.ay (s:={s' with holds:=(kC s' o k wb mm).holds}) hm'.out.ho
     obtain ⟨c0,c1,c2,c3,c4,c5,c6⟩:=EI.cells;rw [eo8] at c1
     have z1':w8.cell? ⟨go8,o*2+1,none⟩=some (V'.line o):=z1;rw [hv8] at z1'
     have hon8:(o:Int)<(s'.orders.length:Int):=by have:=hm'.out.ho;omega
     have hkn8:(k:Int)<((s.order o).lines.length:Int):=by omega
     have MK:=Lib.hid EI;have hw1:IntKind.i64.wrap ((s'.line o k).back - mm)=(s'.line o k).back - mm:=bf _ (by omega)
     have hw2:IntKind.i64.wrap (m - mm)=m - mm:=bf _ (by have:=jif.out;omega)
     have f3':w8.cell? ⟨gl,k*4+3,none⟩=some (.int .i64 (s'.line o k).back):=f3;have jpX:=Lib.hid hv8;clear EI f0 f1 f2 f3 z0 z1 c0 c2 c3 c4 c5 c6 eo8 jld hv8 hw0;go_wp2_with fail;go_still_tail 21,(by kernel_rfl)
     change wpList _ _ _ _ _ w8.drew;refine qF rfl (.tmp 87) (.tmp 85) rfl rfl (j:=3) (y:={s'.line o k with back:=(s'.line o k).back - mm}) MK.out.drew hm'.out.ho hm'.out.hk jpX.out (by decide) rfl rfl rfl (fun w9 jgK mQ=>?_)
     refine gy ?_
     have jgJ:=Lib.hid (show Bx w9 base (w.heap.size+1) 31 [] {V' with holds:=.slice A7 (kC s' o k wb mm).holds.length c7} (kC s' o k wb mm) from jgK)
     have jfE:=Lib.hid (((Hz.out.trans (.of_below hb2)).trans (qJ.mono fun _ h=>.inl h)).trans ((Step.of_below (aj _ _).drew).trans (mQ.mono fun q hq=>.inr (by rw [hq,e1];rfl))))
     have jqD:=Lib.hid (show ((kC s' o k wb mm).line o k).good=(s.line o k).good by rw [(uX hfit.out o k).1];exact hgd'.out)
     clear f3' jgK mQ qJ c1 z1';go_wp2_with fail;go_roundw
     case rel=>exact ⟨j+1,kC s' o k wb mm,m - mm,_,show _=_ by rw [MF.out],by omega,by go_num,rfl,HY hr'.out hfit.out,hm'.out.held (Held.one hr'.out hfit.out) jif.out.1,TP.out,jgJ.out,jqD.out,jfE.out⟩
     case measure=>simp [intOf];omega
    ·have hle0:¬ 0<mm:=by omega
     have TP:=Lib.hid (show kJ o k but ((way p).drop (j+1)) s' m=ji p s o k n but by rw [← hdr'.out,pz (.inr (by rw [← hmin'.out];omega))])
     clear hge;go_wp2_with fail;clear hmm;go_roundw
     case rel=>exact ⟨j+1,s',m,V',MF.out,by omega,by go_num,rfl,hr'.out,hm'.out,TP.out,hBx6.out,hgd'.out,Hz.out⟩
     case measure=>simp [intOf];omega
  ·obtain rfl:j=(way p).length:=by omega
   have hfin:=Lib.hid (show (s',m)=ji p s o k n but by rw [← jfz.out,Lu];rfl)
   have MF:=Lib.hid hsb;obtain ⟨c0,c1,c2,c3,c4,c5,c6⟩:=hBx.cells;have jjo:dN wr (w.heap.size+1+1) aP:=hst.blk jnM.out.blk (fun h=>by have:=hks.out _ h;omega)
   have hone:=hBx.own.one;clear hr hm htg hBx hst hsb;go_wp2_with (refine aK (.tmp 12) (.tmp 91) aP V' rfl jjo rfl hone (fun w9 aN dh=>?_))
   have ng:=jbP.out.own.keptBy dh jjo.blk (by decide) (by decide) (by decide) (by decide) (by decide) (by decide)
   obtain ⟨p0,p1,p2,p3,p4,p5,p6⟩:=aN.cells;have aQ:Step (fun j=>(V.line o).ownBlock=some j) w w9:=
    ((Step.of_below (hb0.trans (h1.mono hb0.size))).trans' hst'.out (fun q hq h=>h.resolve_left (by omega))).trans' (Step.dG (ks:=fun q=>q=w.heap.size+1+1) dh (fun q hq=>by injection hq with hq;exact hq.symm)) (fun q hq h=>by omega)
   clear c0 c1 c2 c3 c4 c5 c6;go_wp2_with fail;exact jS (v:=.tuple #[V'.val,.int .i64 m]) (by simp [results,results74,go_sem,SV.val,p0,p1,p2,p3,p4,p5,p6]) rfl ⟨V',MF.out,by rw [← hfin.out],by rw [← hfin.out];exact ng,aQ⟩
end Wh
