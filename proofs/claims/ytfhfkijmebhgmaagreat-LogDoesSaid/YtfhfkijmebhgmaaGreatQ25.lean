/- Texts of the claim, joined. -/
import Derived.Test.YtfhfkijmebhgmaaGreatQ21
import Derived.Test.YtfhfkijmebhgmaaGreatQ24
set_option maxHeartbeats 20000000
set_option maxRecDepth 100000
namespace Wh
open Go Go.RowKit Go.Shelf Go.Proofs Tryz
attribute [local go_sem] au dQ dI dX
theorem F6 {o:Oper} {ev:Operand→Value} {w:World} {K:Value→World→Prop} (x y:Operand) (ho:o.op=.store 31 x y) (b:Nat) (V V':SV) (hbox:dN w b V) (hx:ev x=.pointer (some ⟨b,0,none⟩)) (hy:ev y=V'.val) (h1:V'.cells.all (fun u=>u.oneCell')=true)
  (h:∀ w',dN w' b V'→w.grownBy w' (some b)→K undef w'):dO prog o ev w K:=by
 have hr:=run_storeVar_row (P:=prog) w b 31 31 V.cells.toArray V'.cells.toArray hbox (by kernel_rfl) rfl (by simpa using h1)
 have hk:=h _ (hbox.blk.row V'.cells) (rE w b V'.cells.toArray);have hy':ev y=.agg V'.cells.toArray:=hy;unfold dO execOp;simp only [ho,hx,hy',Instr.storeAt,Instr.sureAddr,lW,nC,nX,hr];exact hk
def jpN (base bx:Nat) (V:SV) (s s1:State):Nat→World→Prop
 |0,w=>Bx w base bx 31 [] V s
 |1,w=>dN w bx V∧∃ V9:SV,V9={V with holds:=V9.holds}∧aO w base V9 s1
 |_,w=>∃ V9:SV,V9={V with holds:=V9.holds}∧Bx w base bx 31 [] V9 s1
def Qx (W:World) (base bx:Nat) (V:SV) (s s1:State) (ph:Nat) (w:World):Prop:=Below W.heap.size W w∧base≤w.heap.size∧jpN base bx V s s1 ph w
section
variable {W w w1 w2:World} {base bx ph:Nat} {V:SV} {s s1:State}
theorem Qw (h:Qx W base bx V s s1 ph w1) (hb:Below w1.heap.size w1 w2):Qx W base bx V s s1 ph w2:=by
 obtain ⟨h1,h2,h3⟩:=h;refine ⟨h1.trans (hb.mono h1.size),bJ h2 hb.size,?_⟩
 rcases ph with _|_|ph
 ·exact Bx.below h3 hb
 ·obtain ⟨h4,V9,h5,h6⟩:=h3;exact ⟨h4.below hb h4.lt,V9,h5,h6.below hb⟩
 ·obtain ⟨V9,h5,h6⟩:=h3;exact ⟨V9,h5,h6.below hb⟩
theorem Yn (h:Qx W base bx V s s1 ph w):∃ Vb:SV,dN w bx Vb∧Vb.orders=V.orders∧(ph=0→Vb=V):=by
 obtain ⟨h1,h2,h3⟩:=h;rcases ph with _|_|ph
 ·exact ⟨V,Bx.kW h3,rfl,fun _=>rfl⟩
 ·exact ⟨V,h3.1,rfl,fun h=>by omega⟩
 ·obtain ⟨V9,h5,h6⟩:=h3;exact ⟨V9,h6.kW,by rw [h5],fun h=>by omega⟩
theorem jeN (h:Qx W base bx V s s1 ph w):∃ (Vo:SV) (sq:State),aO w base Vo sq∧Vo.orders=V.orders∧Vo.line=V.line∧(sq=s∨sq=s1)∧(ph=0→sq=s):=by
 obtain ⟨h1,h2,h3⟩:=h;rcases ph with _|_|ph
 ·exact ⟨V,s,Bx.own h3,rfl,rfl,.inl rfl,fun _=>rfl⟩
 ·obtain ⟨h4,V9,h5,h6⟩:=h3;exact ⟨V9,s1,h6,by rw [h5],by rw [h5];rfl,.inr rfl,fun h=>by omega⟩
 ·obtain ⟨V9,h5,h6⟩:=h3;exact ⟨V9,s1,h6.own,by rw [h5],by rw [h5];rfl,.inr rfl,fun h=>by omega⟩
end
def zW (base:Nat) (V:SV) (s1:State) (f:Value→Value):Nat→Value→World→Prop
 |0,_,_=>False
 |1,v,w=>∃ V9:SV,V9={V with holds:=V9.holds}∧v=f V9.val∧aO w base V9 s1
 |_,v,_=>∃ V9:SV,v=f V9.val
theorem xW {base:Nat} {V:SV} {s1:State} {f:Value→Value} {ph:Nat} {v:Value} {w1 w2:World} (h:zW base V s1 f ph v w1) (hb:Below w1.heap.size w1 w2):zW base V s1 f ph v w2:=by
 rcases ph with _|_|ph
 ·exact h
 ·obtain ⟨V9,h5,h6,h7⟩:=h;exact ⟨V9,h5,h6,h7.below hb⟩
 ·exact h
theorem Ap {base:Nat} {V:SV} {s1:State} {f:Value→Value} {k:Nat} {v:Value} {w1 w2:World} (hk:k≤1) (h:zW base V s1 f k v w1):zW base V s1 f (k+1) v w2:=by
 rcases (show k=0∨k=1 by omega) with rfl|rfl
 ·exact h.elim
 ·obtain ⟨V9,h5,h6,h7⟩:=h;exact ⟨V9,h6⟩
theorem jaM (w:World) (v vs:Value) (p:Plan) (s:State) (hp:fZ w w.heap.size v p) (hv:fE w w.heap.size vs s):
  Calls prog 53 #[v,vs] w (gU (release p s) w):=by
 obtain ⟨Ab,cb,As,cs,rfl,hP',hBn,hSz,hlb,hls⟩:=kN hp;obtain ⟨A0,c0,A1,c1,A2,c2,A3,c3,A4,c4,A5,c5,A6,c6,rfl,hV,hN,hO,hH,hM,hI,hU,hX,hl0,hl1,hl2,hl3,hl4,hl5,CW⟩:=iG hv;go_enter func53,ntmps53
 go_wp2_with fail;obtain ⟨W0,hW0,hb0,hsz0,hsz1,hsE,hK,hR⟩:=oH w p s Ab cb As cs A0 c0 A1 c1 A2 c2 A3 c3 A4 c4 A5 c5 A6 c6;rw [hW0];clear hW0;obtain ⟨⟨y0,y1⟩,x0,x1,x2,x3,x4,x5,x6,aV,aW⟩:=hK.out W0 (aj W0.heap.size W0);go_wp2_with fail;clear y0 y1 x0 x1 x2 x3 x4 x5 x6 aV aW;refine (qw _ _ _ p s (hP'.out _ hb0) (hV.out _ hb0)).mono ?_
 rintro e W1 ⟨rfl,h1⟩;have hB1:=hb0.trans (h1.mono hb0.size);obtain ⟨⟨y0,y1⟩,x0,x1,x2,x3,x4,x5,x6,aV,aW⟩:=hK.out W1 (h1);by_cases hc:checkState p s=0
 ·have hc':=Lib.hid hc;have hsn:=Lib.hid (dV.1 hc).1;have hfin:=Lib.hid (Qv hc);have h4:=hsn.out.jh;rw [hc];clear hc;go_wp2_with fail;clear y0 y1 x0 x1 x2 x3 x4 x5 x6 aV aW;refine (vS _ _ p s (hV.out _ hB1) hsn.out).mono ?_
  rintro e W5 ⟨_,rfl,⟨V5,rfl,qK⟩,h5⟩;have jc:=(qK).one;have nK:=pV (W5);go_wp2_with (refine aK (.tmp 7) (.tmp 20) aP V5 rfl nK rfl jc (fun w6 fH zO=>?_);refine aU ?_)
  unfold Hid;have jO:=jK zO;have lQ:=fH.lt;clear jc nK zO;have hx6:=Lib.hid (Bx.of fH (qK.below jO));have h06:=h1.trans ((h5.trans (jO.mono h5.size)).mono h1.size);have hle:w.heap.size≤W1.heap.size:=hB1.size;have hle0:W0.heap.size≤W1.heap.size:=h1.size;have qp:W1.heap.size≤W5.heap.size:=h5.size;clear fH qK jO h5 lQ h1 hB1;generalize W1.heap.size=base at hx6 hle hle0 qp
  generalize W5.heap.size=bx at hx6 qp ⊢
  obtain ⟨Ao,co,hvo⟩:=hx6.out.own.vW;have yt:=Lib.hid hvo;clear hvo;go_wp2_with fail;go_loopw [8,9] (fun i _ wr=>∃ n:Nat,n≤s.orders.length∧i=.int .i64 n∧Bx wr base bx 31 [] V5 (jZ s n)∧Below W0.heap.size W0 wr) (fun i _ _=>s.orders.length - (intOf i).toNat)
  case atStart=>exact ⟨0,aT _,rfl,by rw [Oh];exact hx6.out,h06⟩
  case round=>
   clear hx6 h06;obtain ⟨n,hn,rfl,hx,h0⟩:=hrel;have hx':=Lib.hid hx;clear hx;have c1:=hx'.out.cells.2.1;rw [yt.out] at c1
   by_cases hlt:n<s.orders.length
   ·have hni:(n:Int)<(s.orders.length:Int):=by omega
    have EH:n<(jZ s n).orders.length:=by rw [vF];exact hlt
    have l13:=hsn.out.jX hlt;obtain ⟨go,_,_,eo,-⟩:=hx'.out.own.ay EH;rw [yt.out] at eo
    injection eo with eo e2 e3
    subst eo;clear e2 e3;obtain ⟨hgo,jdH,z0,z1⟩:=hx'.out.own.iC EH yt.out;rw [Ae hlt] at z0
    clear EH;by_cases hk:(s.order n).kind=0
    ·have hq:((s.order n).QT=0)=false:=by simpa using hk
     have hk':=Lib.hid hk;clear hk;go_wp2_with (refine xQ rfl (.tmp 39) (.const (.int .i64 1)) rfl rfl (i:=n) (q:=1) hx'.out (by rw [vF];exact hlt) yt.out rfl rfl (fun w7 hx7 uP=>?_);refine aU ?_)
     unfold Hid;rw [Ol hlt] at hx7
     have h07:=h0.trans (uP.below (B:=W0.heap.size) (fun q hq=>by omega) h0.size)
     have pI:=Lib.hid hx7;clear uP hx7 z0 z1 c1 hq hx';obtain ⟨gl,cl,e1,hgl⟩:=pI.out.own.tC (o:=n) (by rw [Cj];exact hlt) (by rw [tV hlt];omega)
     rw [tV hlt] at e1
     have e1':=Lib.hid e1;clear e1;go_wp2_with fail;go_loopw [9] (fun i wr=>∃ k:Nat,k≤(s.order n).lines.length∧i=.int .i64 k∧Bx wr base bx 31 [] V5 (sS s n k)∧Below W0.heap.size W0 wr) (fun i _=>(s.order n).lines.length - (intOf i).toNat)
     case atStart=>exact ⟨0,aT _,rfl,pI.out,h07⟩
     case round=>
      clear pI h07 h0;obtain ⟨k,hkl,rfl,hx,h0⟩:=hrel;have hx':=Lib.hid hx;clear hx;have hon:n<(sS s n k).orders.length:=by rw [Cj];exact hlt
      obtain ⟨_,_,_,z1⟩:=hx'.out.own.iC hon yt.out;rw [e1'.out] at z1
      have c1:=hx'.out.cells.2.1;rw [yt.out] at c1
      have Za:=Lib.hid hon;clear hon;by_cases hkt:k<(s.order n).lines.length
      ·have hki:(k:Int)<((s.order n).lines.length:Int):=by omega
       have hkn:k<((sS s n k).order n).lines.length:=by rw [tV hlt];exact hkt
       obtain ⟨TS,f0,f1,f2,f3⟩:=hx'.out.own.jV Za.out hkn e1'.out;rw [Dy hlt hkt] at f1
       have QZ:=Lib.hid hx'.out.drew;have hkn':=Lib.hid hkn;clear f0 f2 f3 hkn;go_wp2_with fail;go_still_tail 19,(by kernel_rfl)
       change wpList _ _ _ _ _ wr.drew;refine qF rfl (.tmp 69) (.tmp 67) rfl rfl (j:=3) (y:={s.line n k with back:=(s.line n k).want}) QZ.out Za.out hkn'.out e1'.out (by decide) (by rw [Dy hlt hkt];rfl) rfl rfl (fun w9 qj mQ=>?_)
       refine gy ?_
       rw [Om hlt hkt] at qj
       have h09:=h0.drew.trans (mQ.below (B:=W0.heap.size) (fun q hq=>by omega) h0.drew.size)
       have sQ:=Lib.hid qj;clear mQ qj z1 f1 c1 hx' QZ;go_wp2_with fail;go_roundw
       case rel=>exact ⟨k+1,by omega,by go_num,sQ.out,h09⟩
       case measure=>simp [intOf];omega
      ·obtain rfl:k=(s.order n).lines.length:=by omega
       have hx2:=Lib.hid (show Bx wr base bx 31 [] V5 (jZ s (n+1)) by rw [← RN hlt hk'.out];exact hx'.out)
       go_wp2_with fail;go_roundw
       case rel=>exact ⟨n+1,by omega,by go_num,hx2.out,h0⟩
       case measure=>simp [intOf];omega
    ·have hq:((s.order n).QT=0)=true:=by simpa using hk
     have hx2:=Lib.hid (show Bx wr base bx 31 [] V5 (jZ s (n+1)) by rw [Oj hlt hk];exact hx'.out)
     clear hk;go_wp2_with fail;go_roundw
     case rel=>exact ⟨n+1,by omega,by go_num,hx2.out,h0⟩
     case measure=>simp [intOf];omega
   ·obtain rfl:n=s.orders.length:=by omega
    have hx6:=Lib.hid (show Bx wr base bx 31 [] V5 (dH p 0 (fQ s)) by rw [← RJ];exact hx'.out)
    clear hx';go_wp2_with fail;clear c1;have h06:=h0;clear h0;go_loopw [10,11] (fun i _ wr=>∃ (n:Nat) (V:SV),V={V5 with holds:=V.holds}∧n≤s.orders.length∧i=.int .i64 n∧Bx wr base bx 31 [] V (dH p n (fQ s))∧Below W0.heap.size W0 wr) (fun i _ _=>s.orders.length - (intOf i).toNat)
    case atStart=>exact ⟨0,V5,rfl,aT _,rfl,hx6.out,h06⟩
    case round=>
     clear hx6 h06;obtain ⟨n,V,Xo,hn,rfl,hx,h0⟩:=hrel;have hx':=Lib.hid hx;have Ji:=Lib.hid (show V.orders=.slice Ao s.orders.length co by rw [Xo];exact yt.out)
     have DW:=Lib.hid Xo;have c1:=hx.cells.2.1;rw [Ji.out] at c1
     clear hx Xo;by_cases hlt:n<s.orders.length
     ·have hni:(n:Int)<(s.orders.length:Int):=by omega
      have l13:=hsn.out.jX hlt;obtain ⟨hrt,hlen,zI⟩:=Fa (p:=p) hc'.out hn;have EH:n<(dH p n (fQ s)).orders.length:=by rw [hlen];exact hlt
      have hln:=zI n hlt;obtain ⟨go,_,_,eo,-⟩:=hx'.out.own.ay EH;rw [Ji.out] at eo
      injection eo with eo e2 e3
      subst eo;clear e2 e3;have jqt:∃ kd,((dH p n (fQ s)).order n).kind=kd:=⟨_,rfl⟩;obtain ⟨kd,hkd⟩:=jqt;have Nv:=Lib.hid hkd;obtain ⟨gl,cl,e1,hgl⟩:=hx'.out.own.tC EH (by rw [hln];omega)
      rw [hln] at e1
      have e1':=Lib.hid e1;have hgo:=(hx'.out.own.iC EH Ji.out).1;have h06:=h0;have hx6:=hx';clear hkd hrt hlen zI EH hln e1 h0 hx';go_wp2_with fail;clear c1;by_cases hk:kd=1
      ·subst hk;go_loopw [11] (fun i wr=>∃ (k:Nat) (V:SV),V={V5 with holds:=V.holds}∧k≤(s.order n).lines.length∧i=.int .i64 k∧Bx wr base bx 31 [] V (uO p s n k)∧Below W0.heap.size W0 wr) (fun i _=>(s.order n).lines.length - (intOf i).toNat)
       case atStart=>exact ⟨0,V,DW.out,aT _,rfl,hx6.out,h06⟩
       case round=>
        clear hx6 h06 Ji DW e1' V;obtain ⟨k,V,Xo,hkl,rfl,hx,h0⟩:=hrel;have hx':=Lib.hid hx;have Ji:=Lib.hid (show V.orders=.slice (some ⟨go,0,none⟩) s.orders.length co by rw [Xo];exact yt.out)
        have DW:=Lib.hid Xo;clear hx Xo;obtain ⟨hrt,hlen,hkk,hln⟩:=Fb hc'.out hlt Nv.out hkl;have Y7:=Lib.hid hrt;have hon:n<(uO p s n k).orders.length:=by rw [hlen];exact hlt
        obtain ⟨_,_,z0,z1⟩:=hx'.out.own.iC hon Ji.out;rw [hkk,Nv.out] at z0
        obtain ⟨gl2,cl2,e1,jn8⟩:=hx'.out.own.tC hon (by rw [hln];omega)
        rw [hln] at e1
        rw [e1] at z1
        have e1':=Lib.hid e1;obtain ⟨b0,c1,b2,b3,b4,b5,b6⟩:=hx'.out.cells;rw [Ji.out] at c1
        have Za:=Lib.hid hon;have jf0:=Lib.hid hln;have hlen0:=Lib.hid hlen;clear hrt hlen hkk hln hon e1;by_cases hkt:k<(s.order n).lines.length
        ·have hki:(k:Int)<((s.order n).lines.length:Int):=by omega
         have hkn:k<((uO p s n k).order n).lines.length:=by rw [jf0.out];exact hkt
         have hmay:=Lib.hid (Yp hc'.out hlt Nv.out hkt);obtain ⟨TS,f0,f1,f2,f3⟩:=hx'.out.own.jV Za.out hkn e1'.out;have hxd:=Lib.hid hx'.out.drew;have hBd:=hb0.trans (h0.drew.mono hb0.size);have hbs:bx<wr.heap.size:=hx'.out.lt;have jqr:k+1≤(s.order n).lines.length:=hkt;obtain ⟨_,hlen1,_,jij⟩:=Fb hc'.out hlt Nv.out jqr;have hfr:∃ s1 x,uO p s n (k+1)=s1∧(ji p (uO p s n k) n k ((uO p s n k).line n k).back (-1)).2=x:=⟨_,_,rfl,rfl⟩;obtain ⟨s1,x,hs1,hxx⟩:=hfr;have hs1':=Lib.hid hs1;have jdB:=Lib.hid hxx;rw [hs1] at hlen1 jij
         have jf2:=Lib.hid hlen1;have jjx:=Lib.hid jij;have hbase:base≤wr.drew.heap.size:=by show base≤wr.heap.size;omega
         have hT0:Qx W0 base bx V (uO p s n k) s1 0 wr.drew:=⟨h0.drew,hbase,hxd.out⟩;have jgA:=Lib.hid hT0;have hrd:∀ ph w',Qx W0 base bx V (uO p s n k) s1 ph w'→∃ Vb:SV,dN w' bx Vb∧Vb.orders=.slice (some ⟨go,0,none⟩) s.orders.length co∧(ph=0→Vb=V):=fun ph w' h=>by
          obtain ⟨Vb,h1,h2,h3⟩:=Yn h;exact ⟨Vb,h1,h2.trans Ji.out,h3⟩
         have hrl:∀ ph w',Qx W0 base bx V (uO p s n k) s1 ph w'→w'.cell? ⟨go,n*2+1,none⟩=some (.slice (some ⟨gl2,0,none⟩) (s.order n).lines.length cl2)∧∃ q,w'.cell? ⟨gl2,k*4+3,none⟩=some (.int .i64 q)∧(ph=0→q=((uO p s n k).line n k).back):=fun ph w' h=>by
          obtain ⟨Vo,sq,h1,h2,h3,h4,h5⟩:=jeN h;have hq1:sq.orders.length=s.orders.length:=by
           rcases h4 with rfl|rfl
           ·exact hlen0.out
           ·exact jf2.out
          have hq2:(sq.order n).lines.length=(s.order n).lines.length:=by
           rcases h4 with rfl|rfl
           ·exact jf0.out
           ·exact jjx.out
          obtain ⟨_,_,_,z1⟩:=h1.iC (by rw [hq1];exact hlt) (h2.trans Ji.out)
          have el:Vo.line n=.slice (some ⟨gl2,0,none⟩) (s.order n).lines.length cl2:=by rw [h3];exact e1'.out
          rw [el] at z1
          obtain ⟨_,_,_,_,f3⟩:=h1.jV (by rw [hq1];exact hlt) (by rw [hq2];exact hkt) el
          exact ⟨z1,_,f3,fun h0=>by rw [h5 h0]⟩
         have jkD:=Lib.hid hrd;have jfG:=Lib.hid hrl;clear hs1 hxx hlen1 jij hT0 hrd hrl f0 f1 f2 f3 hkn b0 b2 b3 b4 b5 b6 hbase;go_wp2_with fail;clear z0 z1 c1;refine GX 19 (Qx W0 base bx V (uO p s n k) s1) (fun k' w1 w2=>Qx W0 base bx V (uO p s n k) s1 k' w1→Qx W0 base bx V (uO p s n k) s1 (k'+1) w2) 14 18 (by decide) (by decide) (by decide) (fun o ho=>by injection ho with ho;subst ho;exact ⟨⟨14,.chain⟩,by simp,rfl,rfl⟩)
          [fun _ gq _=>gq 98=.agg #[.slice Ab p.aH.length cb,.slice As p.sizes.length cs],fun ph gq w'=>(fun (ph:Nat) (v:Value) (_:World)=>∃ V':SV,v=V'.val∧(ph=0→V'=V)) ph (gq 99) w',fun _ gq _=>gq 100=.int .i64 n,fun _ gq _=>gq 101=.int .i64 k,
           fun _ gq _=>gq 102=.pointer (some ⟨bx,1,none⟩),fun _ gq _=>gq 103=.slice (some ⟨go,0,none⟩) s.orders.length co,fun _ gq _=>gq 104=.int .i64 n,fun _ gq _=>gq 105=.pointer (some ⟨go,n*2,none⟩),fun _ gq _=>gq 106=.pointer (some ⟨go,n*2+1,none⟩),
           fun _ gq _=>gq 107=.slice (some ⟨gl2,0,none⟩) (s.order n).lines.length cl2,fun _ gq _=>gq 108=.int .i64 k,fun _ gq _=>gq 109=.pointer (some ⟨gl2,k*4,none⟩),fun _ gq _=>gq 110=.pointer (some ⟨gl2,k*4+3,none⟩),
           fun ph gq w'=>(fun (ph:Nat) (v:Value) (_:World)=>∃ q,v=.int .i64 q∧(ph=0→q=((uO p s n k).line n k).back)) ph (gq 111) w',
           fun ph gq w'=>zW base V s1 (fun v=>.tuple #[v,.int .i64 x]) ph (gq 112) w',fun ph gq w'=>zW base V s1 (fun v=>.tuple #[v,.int .i64 x]) ph (gq 97) w',fun ph gq w'=>zW base V s1 id ph (gq 113) w',fun _ gq _=>gq 114=.int .i64 x,fun ph gq w'=>ph=2∧True] (by kernel_rfl) (by kernel_rfl) rfl (by kernel_rfl)
          (fun ph w1 w2 h h'=>Qw h h') (fun k w1 w2 _ h h'=>h' h) jgA.out ?_ (fun f w2 hb2 hR=>?_)
         simp only [eY,eG];refine oM.cons (CV.val rfl rfl (by decide) (by decide) (fun ph gq w' hb ho hd=>?_)) ?_
         ·have e2:=ho 2 rfl;obtain ⟨⟨y0,y1⟩,x0,x1,x2,x3,x4,x5,x6,aV,aW⟩:=hK.out w' (hb.1);go_simp
         refine oM.cons (CV.one (d:=99) (p:=fun (ph:Nat) (v:Value) (_:World)=>∃ V':SV,v=V'.val∧(ph=0→V'=V)) rfl rfl (by decide) (by decide) (fun ph v w1 w2 h hb=>h) (fun k v w1 w2 _ h hb=>by
           obtain ⟨V',h1,h2⟩:=h;exact ⟨V',h1,fun h=>by omega⟩) (fun ph gq w' hb ho hd=>?_)) ?_
         ·have e7:=ho 7 rfl;obtain ⟨Vb,hvb,jbh,hvv⟩:=jkD.out ph w' hb;have jnA:=Lib.hid jbh;clear jbh;obtain ⟨b0,b1,b2,b3,b4,b5,b6⟩:=hvb.cells;have jfw:=Lib.hid hvv;clear hvv hvb;unfold dO;go_simp
          exact ⟨⟨Vb,by first|rfl|(unfold SV.val;rw [jnA.out]),jfw.out⟩,aj _ _⟩
         refine oM.cons (CV.val rfl rfl (by decide) (by decide) (fun ph gq w' hb ho hd=>?_)) ?_
         ·have e10:=ho 10 rfl;go_simp
         refine oM.cons (CV.val rfl rfl (by decide) (by decide) (fun ph gq w' hb ho hd=>?_)) ?_
         ·have e11:=ho 11 rfl;go_simp
         refine oM.cons (CV.val rfl rfl (by decide) (by decide) (fun ph gq w' hb ho hd=>?_)) ?_
         ·have e7:=ho 7 rfl;go_simp
         refine oM.cons (CV.val rfl rfl (by decide) (by decide) (fun ph gq w' hb ho hd=>?_)) ?_
         ·have e102:gq 102=.pointer (some ⟨bx,1,none⟩):=hd ⟨4,.data⟩ (by simp) rfl (by decide)
          obtain ⟨Vb,hvb,jbh,hvv⟩:=jkD.out ph w' hb;have c1:=hvb.cells.2.1;rw [jbh] at c1
          clear hvv hvb jbh;go_simp
         refine oM.cons (CV.val rfl rfl (by decide) (by decide) (fun ph gq w' hb ho hd=>?_)) ?_
         ·have e10:=ho 10 rfl;go_simp
         refine oM.cons (CV.val rfl rfl (by decide) (by decide) (fun ph gq w' hb ho hd=>?_)) ?_
         ·have e103:gq 103=.slice (some ⟨go,0,none⟩) s.orders.length co:=hd ⟨5,.data⟩ (by simp) rfl (by decide)
          have e104:gq 104=.int .i64 n:=hd ⟨6,.data⟩ (by simp) rfl (by decide)
          go_simp
         refine oM.cons (CV.val rfl rfl (by decide) (by decide) (fun ph gq w' hb ho hd=>?_)) ?_
         ·have e105:gq 105=.pointer (some ⟨go,n*2,none⟩):=hd ⟨7,.data⟩ (by simp) rfl (by decide)
          go_simp
         refine oM.cons (CV.val rfl rfl (by decide) (by decide) (fun ph gq w' hb ho hd=>?_)) ?_
         ·have e106:gq 106=.pointer (some ⟨go,n*2+1,none⟩):=hd ⟨8,.data⟩ (by simp) rfl (by decide)
          obtain ⟨z1,_⟩:=jfG.out ph w' hb;go_simp
         refine oM.cons (CV.val rfl rfl (by decide) (by decide) (fun ph gq w' hb ho hd=>?_)) ?_
         ·have e11:=ho 11 rfl;go_simp
         refine oM.cons (CV.val rfl rfl (by decide) (by decide) (fun ph gq w' hb ho hd=>?_)) ?_
         ·have e107:gq 107=.slice (some ⟨gl2,0,none⟩) (s.order n).lines.length cl2:=hd ⟨9,.data⟩ (by simp) rfl (by decide)
          have e108:gq 108=.int .i64 k:=hd ⟨10,.data⟩ (by simp) rfl (by decide)
          go_simp
         refine oM.cons (CV.val rfl rfl (by decide) (by decide) (fun ph gq w' hb ho hd=>?_)) ?_
         ·have e109:gq 109=.pointer (some ⟨gl2,k*4,none⟩):=hd ⟨11,.data⟩ (by simp) rfl (by decide)
          go_simp
         refine oM.cons (CV.one (d:=111) (p:=fun (ph:Nat) (v:Value) (_:World)=>∃ q,v=.int .i64 q∧(ph=0→q=((uO p s n k).line n k).back)) rfl rfl (by decide) (by decide) (fun ph v w1 w2 h hb=>h) (fun k v w1 w2 _ h hb=>by
           obtain ⟨V',h1,h2⟩:=h;exact ⟨V',h1,fun h=>by omega⟩) (fun ph gq w' hb ho hd=>?_)) ?_
         ·have jrt:gq 110=.pointer (some ⟨gl2,k*4+3,none⟩):=hd ⟨12,.data⟩ (by simp) rfl (by decide)
          obtain ⟨_,q,f3,hvv⟩:=jfG.out ph w' hb;have jfw:=Lib.hid hvv;clear hvv;unfold dO;go_simp
          exact ⟨jfw.out,aj _ _⟩
         refine oM.cons (CV.first (d:=112) (p:=zW base V s1 (fun v=>.tuple #[v,.int .i64 x])) rfl rfl (fun ph v w1 w2 h hb=>xW h hb) (fun v w1 w2 h hb=>Ap (aA _) h) (fun gq w' hb ho hd=>?_)) ?_
         ·have e98:gq 98=.agg #[.slice Ab p.aH.length cb,.slice As p.sizes.length cs]:=hd ⟨0,.data⟩ (by simp) rfl (by decide)
          have e99:∃ V':SV,gq 99=V'.val∧((0:Nat)=0→V'=V):=hd ⟨1,.data⟩ (by simp) rfl (by decide)
          have e100:gq 100=.int .i64 n:=hd ⟨2,.data⟩ (by simp) rfl (by decide)
          have e101:gq 101=.int .i64 k:=hd ⟨3,.data⟩ (by simp) rfl (by decide)
          have jo8:∃ q,gq 111=.int .i64 q∧((0:Nat)=0→q=((uO p s n k).line n k).back):=hd ⟨13,.data⟩ (by simp) rfl (by decide)
          obtain ⟨V',e99,hVV⟩:=e99;obtain ⟨q,jo8,hqq⟩:=jo8;obtain rfl:=(hVV rfl).symm;obtain rfl:=(hqq rfl).symm;have hb':=Lib.hid hb;clear hb hVV hqq;unfold dO;go_simp
          refine (jeR w' _ p (uO p s n k) n k _ (-1) (hP'.out _ (hb0.trans (hb'.out.1.mono hb0.size))) Y7.out hmay.out (Bx.own hb'.out.2.2) hb'.out.2.1).mono ?_
          rintro e w9 ⟨V9,hV9,rfl,zD,mQ⟩;have FH:aO w9 base V9 s1:=by rw [← hs1'.out];exact zD
          rw [jdB.out];refine ⟨_,rfl,⟨V9,hV9,rfl,FH⟩,fun _=>⟨hb'.out.1.trans (mQ.below (B:=W0.heap.size) (fun q hq=>by
           rw [e1'.out] at hq
           change some gl2=some q at hq
           injection hq with hq
           omega) hb'.out.1.size),bJ hb'.out.2.1 mQ.size,mQ.blk (Bx.kW hb'.out.2.2).blk ?_,V9,hV9,FH⟩⟩
          rcases Own.iD ((Bx.own hb'.out.2.2).line n Za.out) (Bx.kW hb'.out.2.2).blk (by decide) with h|h
          ·rw [h];simp
          ·exact h
         refine oM.cons (CV.one (d:=97) (p:=zW base V s1 (fun v=>.tuple #[v,.int .i64 x])) rfl rfl (by decide) (by decide) (fun ph v w1 w2 h hb=>xW h hb) (fun k v w1 w2 hk h hb=>Ap hk h) (fun ph gq w' hb ho hd=>?_)) ?_
         ·have jlK:zW base V s1 (fun v=>.tuple #[v,.int .i64 x]) ph (gq 112) w':=hd ⟨14,.data⟩ (by simp) rfl (by decide)
          have jo7:=Lib.hid jlK;clear jlK;unfold dO;go_simp
          exact ⟨jo7.out,aj _ _⟩
         refine oM.cons (CV.one (d:=113) (p:=zW base V s1 id) rfl rfl (by decide) (by decide) (fun ph v w1 w2 h hb=>xW h hb) (fun k v w1 w2 hk h hb=>Ap hk h) (fun ph gq w' hb ho hd=>?_)) ?_
         ·have e97:zW base V s1 (fun v=>.tuple #[v,.int .i64 x]) ph (gq 97) w':=hd ⟨15,.data⟩ (by simp) rfl (by decide)
          rcases ph with _|_|ph
          ·exact e97.elim
          ·obtain ⟨V7,hV7,e97,zN⟩:=e97;have WC:=Lib.hid zN;have jlp:=Lib.hid hV7;clear zN hV7;unfold dO;go_simp
           exact ⟨⟨V7,jlp.out,rfl,WC.out⟩,aj _ _⟩
          ·obtain ⟨V7,e97⟩:=e97;unfold dO;go_simp
           exact ⟨⟨V7,rfl⟩,aj _ _⟩
         refine oM.cons (CV.val rfl rfl (by decide) (by decide) (fun ph gq w' hb ho hd=>?_)) ?_
         ·have e97:zW base V s1 (fun v=>.tuple #[v,.int .i64 x]) ph (gq 97) w':=hd ⟨15,.data⟩ (by simp) rfl (by decide)
          have jrq:∃ V7:SV,gq 97=.tuple #[V7.val,.int .i64 x]:=by
           rcases ph with _|_|ph
           ·exact e97.elim
           ·obtain ⟨V7,_,h,_⟩:=e97;exact ⟨V7,h⟩
           ·exact e97
          clear e97;obtain ⟨V7,e97⟩:=jrq;go_simp
         refine oM.cons (CV.second (p:=fun _ _=>True) (by decide) rfl (fun gq w1 w2 h hb=>bP) (fun gq gq' w1 he h=>bP) (fun gq w' hb ho hd=>?_)) ?_
         ·have e7:=ho 7 rfl;have jlJ:zW base V s1 id 1 (gq 113) w':=hd ⟨16,.data⟩ (by simp) rfl (by decide)
          obtain ⟨V7,hV7,jlJ,zN⟩:=jlJ;refine F6 (.tmp 7) (.tmp 113) rfl bx V V7 hb.2.2.1 e7 jlJ zN.one (fun w8 H9 hg8=>?_)
          exact ⟨bP,fun _=>⟨hb.1.grown hg8 hb.1.size (fun q hq=>by injection hq with hq;omega),bJ hb.2.1 hg8.size,V7,hV7,Bx.of H9 (zN.keptBy hg8 hb.2.2.1.blk (by decide) (by decide) (by decide) (by decide) (by decide) (by decide))⟩⟩
         exact oM.nil;obtain ⟨r98,⟨V0,r99,_⟩,jnd,jnc,jnb,jna,jm9,jm8,jm7,jm6,je2,je1,je0,⟨q0,jeZ,_⟩,⟨V1,jeY⟩,⟨V2,r97⟩,⟨V3,jeX⟩,jeW,_⟩:=hR;simp only [fU,qZ,eY,eG,lF,mG,mF,mD,jH,mg,iW,iy,iJ,r98,r99,jnd,jnc,jnb,jna,jm9,jm8,jm7,jm6,je2,je1,je0,jeZ,jeY,r97,jeX,jeW];clear r98 r99 jnd jnc jnb jna jm9 jm8 jm7 jm6 je2 je1 je0 jeZ jeY r97 jeX jeW;refine gy ?_
         obtain ⟨h09,_,V9,hV9,qj⟩:=hb2;have jgz:=Lib.hid (Ql hV9 DW.out);have sQ:=Lib.hid (show Bx w2 base bx 31 [] V9 (uO p s n (k+1)) by rw [hs1'.out];exact qj)
         clear qj hV9 hxd hx' DW Ji hmay Y7 e1' hs1' jdB jgA jkD jfG jf2 jjx;go_wp2_with fail;go_roundw
         case rel=>exact ⟨k+1,V9,jgz.out,by omega,by go_num,sQ.out,h09⟩
         case measure=>simp [intOf];omega
        ·obtain rfl:k=(s.order n).lines.length:=by omega
         have hx2:=Lib.hid (show Bx wr base bx 31 [] V (dH p (n+1) (fQ s)) by rw [← Yo hc'.out hlt Nv.out];exact hx'.out)
         go_wp2_with fail;go_roundw
         case rel=>exact ⟨n+1,V,DW.out,by omega,by go_num,hx2.out,h0⟩
         case measure=>simp [intOf];omega
      ·have hko:(kd==1)=false:=by simpa using hk
       have hkx:=Lib.hid hk;clear hk;go_loopw [11] (fun i wr=>i=.int .i64 0∧Bx wr base bx 31 [] V (dH p n (fQ s))∧Below W0.heap.size W0 wr) (fun i _=>0)
       case atStart=>exact ⟨rfl,hx6.out,h06⟩
       case round=>
        clear hx6 h06;obtain ⟨rfl,hx,h0⟩:=hrel;have hx':=Lib.hid hx;clear hx;obtain ⟨hrt,hlen,zI⟩:=Fa (p:=p) hc'.out hn;have EH:n<(dH p n (fQ s)).orders.length:=by rw [hlen];exact hlt
        obtain ⟨_,_,z0,z1⟩:=hx'.out.own.iC EH Ji.out;rw [Nv.out] at z0
        rw [e1'.out] at z1
        have c1:=hx'.out.cells.2.1;rw [Ji.out] at c1
        have hl0:(0:Int)<((s.order n).lines.length:Int):=by omega
        have hx2:=Lib.hid (show Bx wr base bx 31 [] V (dH p (n+1) (fQ s)) by rw [jco (by rw [Nv.out];exact hkx.out)];exact hx'.out)
        clear hrt hlen zI EH;go_wp2_with fail;go_roundw
        case rel=>exact ⟨n+1,V,DW.out,by omega,by go_num,hx2.out,h0⟩
        case measure=>simp [intOf];omega
     ·obtain rfl:n=s.orders.length:=by omega
      have hB0:=hb0.trans (h0.mono hb0.size);have hx2:=Lib.hid (show Bx wr base bx 31 [] V (uN p s) from hx'.out)
      have hvv:=Ji.out;clear hx' Ji DW;obtain ⟨a0,a1,a2,a3,a4,a5,a6,a7,a8⟩:=V;obtain rfl:a1=.slice Ao s.orders.length co:=hvv;have aX:=hR.out _ h0;obtain ⟨b0,b1,b2,b3,b4,b5,b6⟩:=dN.cells hx2.out.kW;have eU:=aO.one hx2.out.own;go_wp2_with (refine aK (.tmp 4) (.tmp 115) aP (⟨a0,.slice Ao s.orders.length co,a2,a3,a4,a5,a6,a7,a8⟩:SV) rfl aX rfl eU (fun w9 aN dh=>?_))
      have ng:=aO.keptBy hx2.out.own dh aX (by decide) (by decide) (by decide) (by decide) (by decide) (by decide)
      have aQ:=Below.bG hB0 dh;clear b0 b1 b2 b3 b4 b5 b6;go_wp2_with fail;exact dn results53 aN rfl rfl (wH hfin.out (ng.from_ hle) aQ)
 ·have hne:(checkState p s!=0)=true:=by simpa using hc
  have hfin:=Lib.hid (NV hc);clear hc;have aX:=hR.out _ h1;go_wp2_with (refine aK (.tmp 4) (.tmp 17) aP aP rfl aX rfl rfl (fun w9 aN dh=>?_))
  have aQ:=Below.bG hB1 dh;go_wp2_with fail;exact dn results53 aN rfl rfl (dF hfin.out aQ)
end Wh
namespace Wh
open Go Go.RowKit Go.Shelf Go.Proofs Tryz
attribute [local go_sem] au
theorem zF {α:Type} {l:List α} {j:Nat} (hj:j<l.length) (P:α→Bool) (h:P l[j]=true):(l.take (j+1)).filter P=(l.take j).filter P++[l[j]]:=by
 rw [l9 hj,qR];simp [h]
theorem wR {α:Type} {l:List α} {j:Nat} (hj:j<l.length) (P:α→Bool) (h:P l[j]=false):(l.take (j+1)).filter P=(l.take j).filter P:=by
 rw [l9 hj,qR];simp [h]
theorem Yc {α:Type} {l:List α} {P:α→Bool} (h:l.any P=true):l.findIdx P<l.length∧((l.take (l.findIdx P+1)).filter fun x=>!P x)=l.take (l.findIdx P):=by
 have hlt:l.findIdx P<l.length:=List.findIdx_lt_length.2 (by obtain ⟨x,hx,hp⟩:=uJ.1 h;exact ⟨x,hx,hp⟩)
 refine ⟨hlt,?_⟩
 rw [wR hlt _ (by have:=List.findIdx_getElem (p:=P) (xs:=l) (w:=hlt);simp [this]),Ej]
 intro x hx;obtain ⟨i,hi,rfl⟩:=cZ hx;rw [Lj];have hi':i<l.findIdx P:=by rw [dS] at hi;omega
 have:=List.not_of_lt_findIdx hi';simp [this]
theorem jdA:(prog.info? 46).map (·.size)=some 4:=by kernel_rfl
theorem Oo (w:World) (base:Nat) (v:Value) (l:List Hold) (gf:FuncId) (lb:Array Value) (del:Hold→Bool) (eg:Enters prog gf) (hown:Own bM 4 46 w base v l) (hn:l.length≤1000000)
  (hf:∀ k,k<l.length→∀ W,Step (fun q=>v.ownBlock=some q) w W→Calls prog gf (#[kG (hold l k)]++lb) W fun e W'=>e=.returned (.bool (del (hold l k)))∧Below W.heap.size W W'):
  Calls prog 99 #[v,.func (.func gf) #[] lb] w fun e w'=>∃ v',e=.returned v'∧Own bM 4 46 w' base v' (l.filter fun x=>!del x)∧Step (fun q=>v.ownBlock=some q) w w'∧v'.ownBlock=v.ownBlock:=by
 have hI:=Lib.hid (JF w v l gf lb del eg (hown.sl (by omega)) (fun k hk W hW=>hf k hk W (.of_below hW)))
 have hF:=Lib.hid hf;have hl:l.length≤140737488355232:=by omega
 have eg':∀ args w,Sem.run prog (callFunc gf args) w=.ok (.enter gf args) w:=eg;obtain ⟨A,c,rfl⟩:=hown.isSlice;have hO:=Lib.hid hown;clear hown hf;go_enter func99,ntmps99
 go_wp2_with fail;refine hI.out.mono ?_
 rintro e W1 ⟨rfl,hb1⟩;cases ha:l.any del
 ·have hid:idxOf del l= -1:=by unfold idxOf;rw [ha];rfl
  have hfl:=Lib.hid (show (l.filter fun x=>!del x)=l from Ej.2 fun x hx=>by
   have:=Em.1 ha x hx;simpa using this)
  rw [hid];clear hid ha;go_wp2_with fail;go_ret
  exact ⟨.slice A l.length c,rfl,by rw [hfl.out];exact hO.out.below hb1,.of_below hb1,rfl⟩
 ·obtain ⟨i0,hi0⟩:∃ i0,l.findIdx del=i0:=⟨_,rfl⟩;have hid:idxOf del l=(i0:Int):=by unfold idxOf;rw [ha,hi0];rfl
  obtain ⟨hlt0,jbj⟩:=Yc ha;rw [hi0] at hlt0 jbj
  obtain ⟨g,c',hv,hgb,hgl⟩:=hO.out.some_ (by omega)
  injection hv with e1 _ e2
  subst e1 e2;rw [hid];have hne1:((i0:Int)== -1)=false:=by simp
  have hw0:IntKind.i64.wrap ((i0:Int)+1)=(i0:Int)+1:=by rw [qU];omega
  have hob:=Lib.hid (show (Value.slice (some ⟨g,0,none⟩) l.length c).ownBlock=some g from rfl)
  have htk:=Lib.hid jbj;have hcap:=Lib.hid (show l.length≤c∧c≤9223372036854775807 from by
   obtain ⟨g2,c2,cur,e1,_,_,h2,h3,_⟩:=hO.out.row (by omega)
   injection e1 with _ _ e2
   subst e2;unfold maxLen at h3
   exact ⟨h2,by omega⟩)
  clear hid ha hi0 jbj;go_wp2_with fail;clear hw0 hne1;go_loopw [6,5,7] (fun a b _ wr=>∃ (j i:Nat) (m:List Hold),j≤l.length∧a=.int .i64 j∧b=.int .i64 i∧i<j∧m.length=l.length∧m.take i=((l.take j).filter fun x=>!del x)∧m.drop j=l.drop j∧Own bM 4 46 wr base (.slice (some ⟨g,0,none⟩) l.length c) m∧
   Step (fun q=>(Value.slice (some ⟨g,0,none⟩) l.length c).ownBlock=some q) w wr) (fun a _ _ _=>l.length - (intOf a).toNat)
  case atStart=>
   exact ⟨i0+1,i0,l,by omega,by go_num,rfl,by omega,rfl,htk.out.symm,rfl,hO.out.below hb1,.of_below hb1⟩
  case round=>
   obtain ⟨j,i,m,hj,rfl,rfl,hij,hml,hmt,hmd,hm,hst⟩:=hrel;have hmt':=Lib.hid hmt;have jfX:=Lib.hid hmd;have hm':=Lib.hid hm;have hst':=Lib.hid hst;clear hmt hmd hm hst htk;by_cases hlt:j<l.length
   ·have hji:(j:Int)<(l.length:Int):=by omega
    have hii:(i:Int)<(l.length:Int):=by omega
    have hjm:j<m.length:=by omega
    have hmj:m[j]=hold l j:=by
     have h1:(m.drop j)[0]?=(l.drop j)[0]?:=by rw [jfX.out]
     rw [rP,rP,lZ,fF hjm,fF hlt] at h1
     injection h1 with h1
     rw [h1,bV hlt]
    obtain ⟨g1,c1,cur,e1,_,hblk,hcell⟩:=hm'.out.at (fun _=>rfl) hjm
    injection e1 with e1 e2 e3
    injection e1 with e1
    injection e1 with e1
    subst e1;clear e2 e3;rw [hmj] at hcell
    clear hmj;have hml':=Lib.hid hml;clear hml hjm;have d0:wr.cell? ⟨g,j*4,none⟩=_:=hcell 0 _ rfl;have d1:=hcell 1 _ rfl;have d2:=hcell 2 _ rfl;have d3:=hcell 3 _ rfl;have hsa:Step (fun q=>(Value.slice (some ⟨g,0,none⟩) l.length c).ownBlock=some q) w (wr.alloc (.cells #[.int .i64 (hold l j).order,.int .i64 (hold l j).line,.int .i64 (hold l j).bin,.int .i64 (hold l j).n] 46)):=hst'.out.trans (.of_below ((aj _ _).alloc (aA _) _))
    have hbl:=Lib.hid (dw.new wr 46 #[.int .i64 (hold l j).order,.int .i64 (hold l j).line,.int .i64 (hold l j).bin,.int .i64 (hold l j).n]);have hma:=Lib.hid (hm'.out.alloc (.cells #[.int .i64 (hold l j).order,.int .i64 (hold l j).line,.int .i64 (hold l j).bin,.int .i64 (hold l j).n] 46));clear hcell hblk;go_wp2_with fail;clear d0 d1 d2 d3;refine (hF.out j hlt _ hsa).mono ?_
    rintro e W3 ⟨rfl,hb3⟩;have hm3:=hma.out.below hb3;have zK:=hbl.out.below hb3 hbl.out.lt;have hst3:=Lib.hid (hsa.trans (.of_below hb3));have c0:=zK.cell (j:=0) rfl;have c1:=zK.cell (j:=1) rfl;have c2:=zK.cell (j:=2) rfl;have c3:=zK.cell (j:=3) rfl;have hdj:del l[j]=del (hold l j):=by rw [bV hlt]
    have hd1:m.drop (j+1)=l.drop (j+1):=by rw [← GI,jfX.out,GI]
    have H8:=Lib.hid hd1;clear hsa hma hbl hm' hst' hd1;cases hd:del (hold l j)
    ·have hyes:=Lib.hid (zF hlt (fun x=>!del x) (by rw [hdj,hd];rfl))
     have hw1:IntKind.i64.wrap ((i:Int)+1)=(i:Int)+1:=by rw [qU];omega
     clear hd hdj;go_wp2_with (refine JU rfl (.tmp 33) (.tmp 32) 46 rfl rfl hm3 (fun _=>rfl) (i:=i) (by rw [hml'.out];omega) (hold l j) jdA (pG _) rfl rfl (fun w4 OG hg4=>?_);refine aU ?_)
     unfold Hid;have jfS:=Lib.hid OG;have jky:=Lib.hid (hst3.out.trans (.dG hg4 fun k hk=>hob.out.trans hk))
     clear c0 c1 c2 c3 hm3 zK OG hg4 hb3;go_wp2_with fail;go_roundw
     case rel=>
      refine ⟨j+1,i+1,m.set i (hold l j),by omega,by go_num,by go_num,by omega,by rw [pY];exact hml'.out,?_,?_,jfS.out,jky.out⟩
      ·rw [hyes.out,← hmt'.out,bV hlt,l9 (by rw [pY,hml'.out];omega),Gx,Xy (aA _)]
      ·rw [XM (by omega),H8.out]
     case measure=>simp [intOf];omega
    ·have hno:=Lib.hid (wR hlt (fun x=>!del x) (by rw [hdj,hd];rfl))
     have jkQ:=Lib.hid hm3;clear hd hdj hm3 zK hb3;go_wp2_with fail;clear c0 c1 c2 c3;go_roundw
     case rel=>exact ⟨j+1,i,m,by omega,by go_num,rfl,by omega,hml'.out,by rw [hno.out];exact hmt'.out,H8.out,jkQ.out,hst3.out⟩
     case measure=>simp [intOf];omega
   ·obtain rfl:j=l.length:=by omega
    obtain ⟨W5,jgf,qK,hg5⟩:=hm'.out.cut (P:=prog) (fun _=>rfl) (i:=i) (by omega) (t:=28) underlying28 X0 rfl (by simp [Value.cells,Value.oneCell'])
    have hfin:=Lib.hid (show m.take i=l.filter fun x=>!del x by rw [hmt'.out,jE])
    have jkK:=Lib.hid qK;have hst5:=Lib.hid (hst'.out.trans (.dG hg5 fun k hk=>hob.out.trans hk))
    have hi1:(i:Int)≤(l.length:Int):=by omega
    have hcp:=hcap.out;have hi2:i≤c:=by omega
    have hi3:¬ c=i:=by omega
    have hi4:i≤l.length:=by omega
    clear qK hg5 hm' hst';go_wp2_with fail;go_ret
    exact ⟨.slice (some ⟨g,0,none⟩) i c,rfl,by rw [← hfin.out];exact jkK.out,hst5.out,rfl⟩
theorem jdy:(prog.info? 48).map (·.size)=some 4:=by kernel_rfl
theorem ZM (w:World) (base:Nat) (v:Value) (l:List Move) (gf:FuncId) (lb:Array Value) (del:Move→Bool) (eg:Enters prog gf) (hown:Own gV 4 48 w base v l) (hn:l.length≤1000000)
  (hf:∀ k,k<l.length→∀ W,Step (fun q=>v.ownBlock=some q) w W→Calls prog gf (#[uK (aB l k)]++lb) W fun e W'=>e=.returned (.bool (del (aB l k)))∧Below W.heap.size W W'):
  Calls prog 116 #[v,.func (.func gf) #[] lb] w fun e w'=>∃ v',e=.returned v'∧Own gV 4 48 w' base v' (l.filter fun x=>!del x)∧Step (fun q=>v.ownBlock=some q) w w'∧v'.ownBlock=v.ownBlock:=by
 have hI:=Lib.hid (JE w v l gf lb del eg (hown.sl (by omega)) (fun k hk W hW=>hf k hk W (.of_below hW)))
 have hF:=Lib.hid hf;have hl:l.length≤140737488355232:=by omega
 have eg':∀ args w,Sem.run prog (callFunc gf args) w=.ok (.enter gf args) w:=eg;obtain ⟨A,c,rfl⟩:=hown.isSlice;have hO:=Lib.hid hown;clear hown hf;go_enter func116,ntmps116
 go_wp2_with fail;refine hI.out.mono ?_
 rintro e W1 ⟨rfl,hb1⟩;cases ha:l.any del
 ·have hid:idxOf del l= -1:=by unfold idxOf;rw [ha];rfl
  have hfl:=Lib.hid (show (l.filter fun x=>!del x)=l from Ej.2 fun x hx=>by
   have:=Em.1 ha x hx;simpa using this)
  rw [hid];clear hid ha;go_wp2_with fail;go_ret
  exact ⟨.slice A l.length c,rfl,by rw [hfl.out];exact hO.out.below hb1,.of_below hb1,rfl⟩
 ·obtain ⟨i0,hi0⟩:∃ i0,l.findIdx del=i0:=⟨_,rfl⟩;have hid:idxOf del l=(i0:Int):=by unfold idxOf;rw [ha,hi0];rfl
  obtain ⟨hlt0,jbj⟩:=Yc ha;rw [hi0] at hlt0 jbj
  obtain ⟨g,c',hv,hgb,hgl⟩:=hO.out.some_ (by omega)
  injection hv with e1 _ e2
  subst e1 e2;rw [hid];have hne1:((i0:Int)== -1)=false:=by simp
  have hw0:IntKind.i64.wrap ((i0:Int)+1)=(i0:Int)+1:=by rw [qU];omega
  have hob:=Lib.hid (show (Value.slice (some ⟨g,0,none⟩) l.length c).ownBlock=some g from rfl)
  have htk:=Lib.hid jbj;have hcap:=Lib.hid (show l.length≤c∧c≤9223372036854775807 from by
   obtain ⟨g2,c2,cur,e1,_,_,h2,h3,_⟩:=hO.out.row (by omega)
   injection e1 with _ _ e2
   subst e2;unfold maxLen at h3
   exact ⟨h2,by omega⟩)
  clear hid ha hi0 jbj;go_wp2_with fail;clear hw0 hne1;go_loopw [6,5,7] (fun a b _ wr=>∃ (j i:Nat) (m:List Move),j≤l.length∧a=.int .i64 j∧b=.int .i64 i∧i<j∧m.length=l.length∧m.take i=((l.take j).filter fun x=>!del x)∧m.drop j=l.drop j∧Own gV 4 48 wr base (.slice (some ⟨g,0,none⟩) l.length c) m∧
   Step (fun q=>(Value.slice (some ⟨g,0,none⟩) l.length c).ownBlock=some q) w wr) (fun a _ _ _=>l.length - (intOf a).toNat)
  case atStart=>
   exact ⟨i0+1,i0,l,by omega,by go_num,rfl,by omega,rfl,htk.out.symm,rfl,hO.out.below hb1,.of_below hb1⟩
  case round=>
   obtain ⟨j,i,m,hj,rfl,rfl,hij,hml,hmt,hmd,hm,hst⟩:=hrel;have hmt':=Lib.hid hmt;have jfX:=Lib.hid hmd;have hm':=Lib.hid hm;have hst':=Lib.hid hst;clear hmt hmd hm hst htk;by_cases hlt:j<l.length
   ·have hji:(j:Int)<(l.length:Int):=by omega
    have hii:(i:Int)<(l.length:Int):=by omega
    have hjm:j<m.length:=by omega
    have hmj:m[j]=aB l j:=by
     have h1:(m.drop j)[0]?=(l.drop j)[0]?:=by rw [jfX.out]
     rw [rP,rP,lZ,fF hjm,fF hlt] at h1
     injection h1 with h1
     rw [h1,iM hlt]
    obtain ⟨g1,c1,cur,e1,_,hblk,hcell⟩:=hm'.out.at (fun _=>rfl) hjm
    injection e1 with e1 e2 e3
    injection e1 with e1
    injection e1 with e1
    subst e1;clear e2 e3;rw [hmj] at hcell
    clear hmj;have hml':=Lib.hid hml;clear hml hjm;have d0:wr.cell? ⟨g,j*4,none⟩=_:=hcell 0 _ rfl;have d1:=hcell 1 _ rfl;have d2:=hcell 2 _ rfl;have d3:=hcell 3 _ rfl;have hsa:Step (fun q=>(Value.slice (some ⟨g,0,none⟩) l.length c).ownBlock=some q) w (wr.alloc (.cells #[.int .i64 (aB l j).good,.int .i64 (aB l j).src,.int .i64 (aB l j).dst,.int .i64 (aB l j).n] 48)):=hst'.out.trans (.of_below ((aj _ _).alloc (aA _) _))
    have hbl:=Lib.hid (dw.new wr 48 #[.int .i64 (aB l j).good,.int .i64 (aB l j).src,.int .i64 (aB l j).dst,.int .i64 (aB l j).n]);have hma:=Lib.hid (hm'.out.alloc (.cells #[.int .i64 (aB l j).good,.int .i64 (aB l j).src,.int .i64 (aB l j).dst,.int .i64 (aB l j).n] 48));clear hcell hblk;go_wp2_with fail;clear d0 d1 d2 d3;refine (hF.out j hlt _ hsa).mono ?_
    rintro e W3 ⟨rfl,hb3⟩;have hm3:=hma.out.below hb3;have zK:=hbl.out.below hb3 hbl.out.lt;have hst3:=Lib.hid (hsa.trans (.of_below hb3));have c0:=zK.cell (j:=0) rfl;have c1:=zK.cell (j:=1) rfl;have c2:=zK.cell (j:=2) rfl;have c3:=zK.cell (j:=3) rfl;have hdj:del l[j]=del (aB l j):=by rw [iM hlt]
    have hd1:m.drop (j+1)=l.drop (j+1):=by rw [← GI,jfX.out,GI]
    have H8:=Lib.hid hd1;clear hsa hma hbl hm' hst' hd1;cases hd:del (aB l j)
    ·have hyes:=Lib.hid (zF hlt (fun x=>!del x) (by rw [hdj,hd];rfl))
     have hw1:IntKind.i64.wrap ((i:Int)+1)=(i:Int)+1:=by rw [qU];omega
     clear hd hdj;go_wp2_with (refine JU rfl (.tmp 33) (.tmp 32) 48 rfl rfl hm3 (fun _=>rfl) (i:=i) (by rw [hml'.out];omega) (aB l j) jdy (Ja _) rfl rfl (fun w4 OG hg4=>?_);refine aU ?_)
     unfold Hid;have jfS:=Lib.hid OG;have jky:=Lib.hid (hst3.out.trans (.dG hg4 fun k hk=>hob.out.trans hk))
     clear c0 c1 c2 c3 hm3 zK OG hg4 hb3;go_wp2_with fail;go_roundw
     case rel=>
      refine ⟨j+1,i+1,m.set i (aB l j),by omega,by go_num,by go_num,by omega,by rw [pY];exact hml'.out,?_,?_,jfS.out,jky.out⟩
      ·rw [hyes.out,← hmt'.out,iM hlt,l9 (by rw [pY,hml'.out];omega),Gx,Xy (aA _)]
      ·rw [XM (by omega),H8.out]
     case measure=>simp [intOf];omega
    ·have hno:=Lib.hid (wR hlt (fun x=>!del x) (by rw [hdj,hd];rfl))
     have jkQ:=Lib.hid hm3;clear hd hdj hm3 zK hb3;go_wp2_with fail;clear c0 c1 c2 c3;go_roundw
     case rel=>exact ⟨j+1,i,m,by omega,by go_num,rfl,by omega,hml'.out,by rw [hno.out];exact hmt'.out,H8.out,jkQ.out,hst3.out⟩
     case measure=>simp [intOf];omega
   ·obtain rfl:j=l.length:=by omega
    obtain ⟨W5,jgf,qK,hg5⟩:=hm'.out.cut (P:=prog) (fun _=>rfl) (i:=i) (by omega) (t:=29) underlying29 XZ rfl (by simp [Value.cells,Value.oneCell'])
    have hfin:=Lib.hid (show m.take i=l.filter fun x=>!del x by rw [hmt'.out,jE])
    have jkK:=Lib.hid qK;have hst5:=Lib.hid (hst'.out.trans (.dG hg5 fun k hk=>hob.out.trans hk))
    have hi1:(i:Int)≤(l.length:Int):=by omega
    have hcp:=hcap.out;have hi2:i≤c:=by omega
    have hi3:¬ c=i:=by omega
    have hi4:i≤l.length:=by omega
    clear qK hg5 hm' hst';go_wp2_with fail;go_ret
    exact ⟨.slice (some ⟨g,0,none⟩) i c,rfl,by rw [← hfin.out];exact jkK.out,hst5.out,rfl⟩
end Wh
