/- Texts of the claim, joined. -/
import Derived.IntWalk
import Derived.Deep.RegionHeld3
import Derived.Test.YtfhfkijmebhgmaaGreatQ13
set_option maxHeartbeats 20000000
set_option maxRecDepth 100000
namespace Wh
open Go Go.RowKit Go.Shelf Go.Proofs Tryz
attribute [local go_sem] au
theorem jj5 (x:Line) (W:World):Calls prog 142 #[BL x] W fun e W'=>e=.returned (.bool (decide (x.got<x.want)))∧Below W.heap.size W W':=by
 have hb0:Below W.heap.size W (W.alloc (.cells #[.int .i64 (x).good,.int .i64 (x).want,.int .i64 (x).got,.int .i64 (x).back] 44)):=(aj _ _).alloc (aA _) _;unfold BL;go_enter func142,ntmps142
 go_wp2_with fail;go_ret
 exact ⟨rfl,hb0⟩
theorem ZJ:Enters prog 142:=enters_of func142 (by kernel_rfl) rfl
theorem UM (s:State) (o k:Nat):
  (((s.order o).kind==0)=true∧((s.order o).kind==2)=false∧((s.line o k).got+(s.line o k).back+kept s.holds o k!=0)=true∧fM s o k=false)∨
  (((s.order o).kind==0)=true∧((s.order o).kind==2)=false∧((s.line o k).got+(s.line o k).back+kept s.holds o k!=0)=false∧fM s o k=true)∨
  (((s.order o).kind==0)=false∧((s.line o k).got+(s.line o k).back+kept s.holds o k!=(s.line o k).want)=true∧fM s o k=false)∨
  (((s.order o).kind==0)=false∧((s.line o k).got+(s.line o k).back+kept s.holds o k!=(s.line o k).want)=false∧((s.order o).kind==2)=true∧decide (0<kept s.holds o k)=true∧fM s o k=false)∨
  (((s.order o).kind==0)=false∧((s.line o k).got+(s.line o k).back+kept s.holds o k!=(s.line o k).want)=false∧((s.order o).kind==2)=true∧decide (0<kept s.holds o k)=false∧fM s o k=true)∨
  (((s.order o).kind==0)=false∧((s.line o k).got+(s.line o k).back+kept s.holds o k!=(s.line o k).want)=false∧((s.order o).kind==2)=false∧fM s o k=true):=by
 unfold fM;by_cases h0:(s.order o).kind=0
 ·by_cases h1:(s.line o k).got+(s.line o k).back+kept s.holds o k=0<;>simp [h0,h1]
 ·by_cases h1:(s.line o k).got+(s.line o k).back+kept s.holds o k=(s.line o k).want<;>by_cases h2:(s.order o).kind=2<;>by_cases h3:0<kept s.holds o k<;>simp [h0,h1,h2,h3]
theorem Mc {l:List Hold} (h:bQ l=true) (o ln:Int):F7 l o ln=(kept l o ln,0):=by unfold F7;rw [h];rfl
theorem jhE (w:World) (v vs:Value) (p:Plan) (s:State) (hp:fZ w w.heap.size v p) (hv:fE w w.heap.size vs s) (hs:iI p s):
  Calls prog 79 #[v,vs] w fun e w'=>e=.returned (.bool (summed p s))∧Below w.heap.size w w':=by
 have hcnt:=hs.counts;have h4:=hs.jh;have h72:=jJ hs.holds;have pJ:=Lib.hid hs;clear hs;obtain ⟨Ab,cb,As,cs,rfl,hP',hBn,hSz,hlb,hls⟩:=kN hp;obtain ⟨A0,c0,A1,c1,A2,c2,A3,c3,A4,c4,A5,c5,A6,c6,rfl,hV,hN,hO,hH,hM,hI,hU,hX,hl0,hl1,hl2,hl3,hl4,hl5,CW⟩:=iG hv;go_enter func79,ntmps79
 go_wp2_with fail;obtain ⟨W0,hW0,hb0,hsz0,hsz1,hsE,hK⟩:=uS w p s Ab cb As cs A0 c0 A1 c1 A2 c2 A3 c3 A4 c4 A5 c5 A6 c6;rw [hW0];clear hW0;obtain ⟨⟨y0,y1⟩,x0,x1,x2,x3,x4,x5,x6,aV,aW⟩:=hK.out W0 (aj W0.heap.size W0);go_loopw [19,5,6,7,8] (fun i _ _ _ _ wr=>∃ k:Nat,k≤p.sizes.length∧i=.int .i64 k∧(∀ j,j<k→ni p s j=true)∧Below W0.heap.size W0 wr) (fun i _ _ _ _ _=>p.sizes.length - (intOf i).toNat)
 case atStart=>exact ⟨0,aT _,rfl,fun j hj=>by omega,aj _ _⟩
 case round=>
  clear y0 y1 x0 x1 x2 x3 x4 x5 x6 aV aW;obtain ⟨k,hk,rfl,hall,hbw⟩:=hrel;have hall':=Lib.hid hall;clear hall;have hB:=hb0.trans (hbw.mono hb0.size);obtain ⟨⟨y0,y1⟩,x0,x1,x2,x3,x4,x5,x6,aV,aW⟩:=hK.out wr (hbw);by_cases hlt:k<p.sizes.length
  ·have hI4:k<s.inn.length:=by rw [pJ.out.inn.1];exact hlt
   have hI5:k<s.out.length:=by rw [pJ.out.out.1];exact hlt
   have Xr:k<s.fixed.length:=by rw [pJ.out.fixed.1];exact hlt
   obtain ⟨i1,i2⟩:=pJ.out.inn.2 hlt;obtain ⟨u1,u2⟩:=pJ.out.out.2 hlt;obtain ⟨f1,f2⟩:=pJ.out.fixed.2 hlt;have e0:jw p s.on 0 k=0:=FZ.2 ⟨pJ.out.shelf,oU.2 (by omega),lM.2 (by omega)⟩
   have hSE:=Lib.hid (jch e0);clear e0;go_wp2_with fail;refine (jeB _ _ _ p s.on k (hP'.out wr hB) (hN.out wr hB)).mono ?_
   rintro e W1 ⟨rfl,hb1⟩;rw [hSE.out];clear y0 y1 x0 x1 x2 x3 x4 x5 x6 aV aW;have jM:=hbw.trans (hb1.mono hbw.size);have hB1:=hb0.trans (jM.mono hb0.size);obtain ⟨⟨y0,y1⟩,x0,x1,x2,x3,x4,x5,x6,aV,aW⟩:=hK.out W1 (jM);obtain ⟨o4,l4,r4⟩:=(hI.out W1 hB1).at_.int hI4;obtain ⟨o5,l5,r5⟩:=(hU.out W1 hB1).at_.int hI5;obtain ⟨o6,l6,r6⟩:=(hX.out W1 hB1).at_.int Xr;have q1:=fun o d os=>aG (w:=W1) (b:=w.heap.size+1) aV o d os
   have q4:=fun o d os=>aG (w:=W1) (b:=dD A4) l4 o d os
   have q5:=fun o d os=>aG (w:=W1) (b:=dD A5) l5 o d os
   have q6:=fun o d os=>aG (w:=W1) (b:=dD A6) l6 o d os
   have hw1:IntKind.i64.wrap (aC s.inn k - aC s.out k)=aC s.inn k - aC s.out k:=bf _ (by omega)
   have hw2:IntKind.i64.wrap (aC s.inn k - aC s.out k+aC s.fixed k)=aC s.inn k - aC s.out k+aC s.fixed k:=bf _ (by omega)
   have MC:=Lib.hid hw1;have jkt:=Lib.hid hw2;clear hw1 hw2;by_cases hsum:sumOf s.on k=aC s.inn k - aC s.out k+aC s.fixed k
   ·have hne:(sumOf s.on k!=aC s.inn k - aC s.out k+aC s.fixed k)=false:=by simpa using hsum
    have jfC:=Lib.hid hsum;have hw1:=MC.out;have hw2:=jkt.out;clear hsum;go_wp2_with fail;refine aJ (by kernel_rfl) (by kernel_rfl) ?_
    repeat (go_big_quiet_step (fail))
    refine wpQuiet_nil ?_
    intro W2 hw';have hb2:=aI hw';clear hw';clear q1 q4 q5 q6 hw1 hw2 hne;clear y0 y1 x0 x1 x2 x3 x4 x5 x6 aV aW;have hbw2:=jM.trans (hb2.mono jM.size);have hB2:=hb0.trans (hbw2.mono hb0.size);obtain ⟨⟨y0,y1⟩,x0,x1,x2,x3,x4,x5,x6,aV,aW⟩:=hK.out W2 (hbw2);go_wp2_with fail;go_loopw [52,8] (fun i _ wr=>∃ m:Nat,m≤p.aH.length∧i=.int .i64 m∧(∀ j,j<m→bound s j k≤cell s.on j k)∧Below W0.heap.size W0 wr) (fun i _ _=>p.aH.length - (intOf i).toNat)
    case atStart=>exact ⟨0,aT _,rfl,fun j hj=>by omega,hbw2⟩
    case round=>
     clear y0 y1 x0 x1 x2 x3 x4 x5 x6 aV aW;clear r4 r5 r6 hbw hb1 hB jM hB1 hb2 hbw2 hB2;obtain ⟨m,hm,rfl,pK,hbw⟩:=hrel;have iP:=Lib.hid pK;clear pK;have hB:=hb0.trans (hbw.mono hb0.size);obtain ⟨⟨y0,y1⟩,x0,x1,x2,x3,x4,x5,x6,aV,aW⟩:=hK.out wr (hbw);by_cases hml:m<p.aH.length
     ·have hml':m<s.on.length:=by rw [pJ.out.ku];exact hml
      have hkr:k<(rowAt s.on m).length:=by rw [pJ.out.rowLen hml];exact hlt
      obtain ⟨Ar,cr,YF,N8,Ux,hrow⟩:=(hN.out wr hB).row hml';obtain ⟨YE,lr1,KP⟩:=hrow.at_.int hkr;have q1:=fun o d os=>aG (w:=wr) (b:=w.heap.size+1) aV o d os
      have q2:=fun o d os=>aG (w:=wr) (b:=dD A0) N8 o d os
      have q3:=fun o d os=>aG (w:=wr) (b:=dD Ar) lr1 o d os
      have hV2:=Lib.hid (fun d os=>hV.out _ (hB.trans ((dZ wr d os).mono hB.size)))
      have hcl:aC (rowAt s.on m) k=cell s.on m k:=rfl;have hcl':=Lib.hid hcl;clear hcl;by_cases hbd:bound s m k≤cell s.on m k
      ·have hd:decide (aC (rowAt s.on m) k<bound s m k)=false:=by rw [hcl'.out];simpa using hbd
       have jlk:=Lib.hid hbd;clear hbd;go_wp2_with fail;refine aJ (by kernel_rfl) (by kernel_rfl) ?_
       repeat (go_big_quiet_step ((go_at_call 62;refine bD (VF _ _ p s _ _ (hV2.out _ _) pJ.out))))
       refine wpQuiet_nil ?_
       intro W2 hw';have hb2:=aI hw';clear hw';clear q1 q2 q3;go_wp2_with fail;go_roundw
       case rel=>
        refine ⟨m+1,by omega,by go_num,fun j hj=>?_,hbw.trans (hb2.mono hbw.size)⟩
        rcases dB.1 hj with h|rfl
        ·exact iP.out j h
        ·exact jlk.out
       case measure=>simp [intOf];omega
      ·have hd:decide (aC (rowAt s.on m) k<bound s m k)=true:=by rw [hcl'.out];simpa using hbd
       have hfin:=Lib.hid (Df hlt (Ii hml (show cell s.on m k<bound s m k by omega)))
       clear hbd;go_wp2_with fail;refine aJ (by kernel_rfl) (by kernel_rfl) ?_
       repeat (go_big_quiet_step ((go_at_call 62;refine bD (VF _ _ p s _ _ (hV2.out _ _) pJ.out))))
       refine wpQuiet_nil ?_
       intro W2 hw';have hb2:=aI hw';clear hw';clear q1 q2 q3;go_wp2_with fail;go_ret
       exact ⟨aY (by rw [hfin.out]),hB.trans (hb2.mono hB.size)⟩
     ·obtain rfl:m=p.aH.length:=by omega
      go_wp2_with fail;go_roundw
      case rel=>
       refine ⟨k+1,by omega,by go_num,fun j hj=>?_,hbw⟩
       rcases dB.1 hj with h|rfl
       ·exact hall'.out j h
       ·exact oC.2 ⟨jfC.out,iP.out⟩
      case measure=>simp [intOf];omega
   ·have hne:(sumOf s.on k!=aC s.inn k - aC s.out k+aC s.fixed k)=true:=by simpa using hsum
    have hfin:=Lib.hid (Df hlt (Ih hsum));have hw1:=MC.out;have hw2:=jkt.out;clear hsum;go_wp2_with fail;refine aJ (by kernel_rfl) (by kernel_rfl) ?_
    repeat (go_big_quiet_step (fail))
    refine wpQuiet_nil ?_
    intro W2 hw';have hb2:=aI hw';clear hw';clear q1 q4 q5 q6 hw1 hw2 hne;go_wp2_with fail;go_ret
    exact ⟨aY (by rw [hfin.out]),hB1.trans (hb2.mono hB1.size)⟩
  ·obtain rfl:k=p.sizes.length:=by omega
   go_wp2_with fail;go_loopw [73,9,10,11,12,13,14,15] (fun i _ _ _ _ _ _ _ wr=>∃ k:Nat,k≤s.orders.length∧i=.int .i64 k∧(∀ j,j<k→mP s j=true)∧Below W0.heap.size W0 wr) (fun i _ _ _ _ _ _ _ _=>s.orders.length - (intOf i).toNat)
   case atStart=>exact ⟨0,aT _,rfl,fun j hj=>by omega,hbw⟩
   case round=>
    clear y0 y1 x0 x1 x2 x3 x4 x5 x6 aV aW;clear hbw hB;obtain ⟨k,hk,rfl,Zo,hbw⟩:=hrel;have Ky:=Lib.hid Zo;clear Zo;have hB:=hb0.trans (hbw.mono hb0.size);obtain ⟨⟨y0,y1⟩,x0,x1,x2,x3,x4,x5,x6,aV,aW⟩:=hK.out wr (hbw);by_cases hlt:k<s.orders.length
    ·obtain ⟨A',c',hok1,yw,d0,d1,hsl⟩:=(hO.out wr hB).order hlt;obtain ⟨l1,l3⟩:=pJ.out.jX hlt;change 1≤(ay s.orders k).lines.length at l1
     change (ay s.orders k).lines.length≤3 at l3
     have hba:Below W0.heap.size W0 (wr.alloc (.cells #[.int .i64 (ay s.orders k).kind,.slice A' (ay s.orders k).lines.length c'] 42)):=hbw.alloc hbw.size _;have Y5:Below wr.heap.size wr (wr.alloc (.cells #[.int .i64 (ay s.orders k).kind,.slice A' (ay s.orders k).lines.length c'] 42)):=(aj _ _).alloc (aA _) _;have hla:wr.heap.size<(wr.alloc (.cells #[.int .i64 (ay s.orders k).kind,.slice A' (ay s.orders k).lines.length c'] 42)).heap.size:=by simp
     have hzo:(wr.alloc (.cells #[.int .i64 (ay s.orders k).kind,.slice A' (ay s.orders k).lines.length c'] 42)).cell? ⟨wr.heap.size,0,none⟩=some (.int .i64 (ay s.orders k).kind)∧
       (wr.alloc (.cells #[.int .i64 (ay s.orders k).kind,.slice A' (ay s.orders k).lines.length c'] 42)).cell? ⟨wr.heap.size,1,none⟩=some (.slice A' (ay s.orders k).lines.length c'):=by simp
     have jbd:=Lib.hid hzo;clear hzo;by_cases hk1:(ay s.orders k).kind=1
     ·have hq:((ay s.orders k).kind==1)=true:=by simpa using hk1
      have jik:=Lib.hid hk1;clear hk1;go_wp2_with fail;refine (nT _ _ (ay s.orders k).lines 142 #[] (fun x=>decide (x.got<x.want)) ZJ (hsl.grow Y5) (fun j _ W hW=>jj5 _ W)).mono ?_
      rintro e W2 ⟨rfl,hb2⟩;have hag:=SQ pJ.out hlt;change ((ay s.orders k).lines.any fun x=>decide (x.got<x.want))=_ at hag
      rw [hag];clear hag;cases DU:iH (s.order k)
      ·have hng:=Lib.hid (show ¬ ((s.order k).kind=1∧iH (s.order k)=true) by rw [DU];simp)
       have hbk:=hba.trans (hb2.mono hba.size);have hlk:wr.heap.size<W2.heap.size:=aZ hla hb2.size;have zo0:=(hb2.cell (p:=⟨wr.heap.size,0,none⟩) hla).trans jbd.out.1;have zo1:=(hb2.cell (p:=⟨wr.heap.size,1,none⟩) hla).trans jbd.out.2;have hLs:=Lib.hid (hsl.grow (Y5.trans (hb2.mono Y5.size)));clear DU hba Y5 hla jbd hsl d0 d1;go_wp2_with fail;clear hq hb2;clear y0 y1 x0 x1 x2 x3 x4 x5 x6 aV aW;obtain ⟨wo,hwo⟩:∃ n:Nat,n=wr.heap.size:=⟨_,rfl⟩;rw [← hwo] at hlk zo0 zo1
       rw [← hwo];clear hwo;clear hbw hB;go_loopw [90,11,12,13,14,15] (fun i _ _ _ _ _ wr=>∃ m:Nat,m≤(ay s.orders k).lines.length∧i=.int .i64 m∧(∀ j,j<m→fM s k j=true)∧Below W2.heap.size W2 wr) (fun i _ _ _ _ _ _=>(ay s.orders k).lines.length - (intOf i).toNat)
       case atStart=>exact ⟨0,aT _,rfl,fun j hj=>by omega,aj _ _⟩
       case round=>
        obtain ⟨m,hm,rfl,pK,hbl⟩:=hrel;have iP:=Lib.hid pK;clear pK;have hbw:=hbk.trans (hbl.mono hbk.size);have hB:=hb0.trans (hbw.mono hb0.size);obtain ⟨⟨y0,y1⟩,x0,x1,x2,x3,x4,x5,x6,aV,aW⟩:=hK.out wr (hbw);have w0:=(hbl.cell (p:=⟨wo,0,none⟩) hlk).trans zo0;have w1:=(hbl.cell (p:=⟨wo,1,none⟩) hlk).trans zo1;have hlw:=aZ hlk hbl.size;by_cases hml:m<(ay s.orders k).lines.length
        ·obtain ⟨hok2,Jt,e0,e1,e2,e3⟩:=(hLs.out.grow hbl).at_.line hml;have hl:bH (ay s.orders k).lines m=s.line k m:=rfl;rw [hl] at e0 e1 e2 e3
         clear hl;obtain ⟨_,⟨b1,b2⟩,⟨b3,b4⟩,b5,b6⟩:=pJ.out.line hlt hml;obtain ⟨b7,b8⟩:=lK pJ.out.holds k m;have jkW:=Lib.hid (show (F7 s.holds k m).1=kept s.holds k m by rw [Mc pJ.out.holds])
         have hke2:=Lib.hid (show (F7 s.holds k m).2=0 by rw [Mc pJ.out.holds])
         have Ic:Below W2.heap.size W2 (wr.alloc (.cells #[.int .i64 (s.line k m).good,.int .i64 (s.line k m).want,.int .i64 (s.line k m).got,.int .i64 (s.line k m).back] 44)):=hbl.alloc hbl.size _;have jbs:wr.heap.size<(wr.alloc (.cells #[.int .i64 (s.line k m).good,.int .i64 (s.line k m).want,.int .i64 (s.line k m).got,.int .i64 (s.line k m).back] 44)).heap.size:=by simp
         have hzl:(wr.alloc (.cells #[.int .i64 (s.line k m).good,.int .i64 (s.line k m).want,.int .i64 (s.line k m).got,.int .i64 (s.line k m).back] 44)).cell? ⟨wr.heap.size,1,none⟩=some (.int .i64 (s.line k m).want)∧(wr.alloc (.cells #[.int .i64 (s.line k m).good,.int .i64 (s.line k m).want,.int .i64 (s.line k m).got,.int .i64 (s.line k m).back] 44)).cell? ⟨wr.heap.size,2,none⟩=some (.int .i64 (s.line k m).got)∧(wr.alloc (.cells #[.int .i64 (s.line k m).good,.int .i64 (s.line k m).want,.int .i64 (s.line k m).got,.int .i64 (s.line k m).back] 44)).cell? ⟨wr.heap.size,3,none⟩=some (.int .i64 (s.line k m).back):=by simp
         have jbe:=Lib.hid hzl;have jM:=hbk.trans (Ic.mono hbk.size);have hB1:=hb0.trans (jM.mono hb0.size);clear hzl;go_wp2_with fail;refine (jgb _ _ s.holds k m (hH.out _ hB1)).mono ?_
         rintro e W3 ⟨rfl,hb3⟩;rw [jkW.out,hke2.out];have zK:=Ic.trans (hb3.mono Ic.size);have hbw3:=hbk.trans (zK.mono hbk.size);have z0:=(zK.cell (p:=⟨wo,0,none⟩) hlk).trans zo0;have z1:=(hb3.cell (p:=⟨wr.heap.size,1,none⟩) jbs).trans jbe.out.1;have z2:=(hb3.cell (p:=⟨wr.heap.size,2,none⟩) jbs).trans jbe.out.2.1;have z3:=(hb3.cell (p:=⟨wr.heap.size,3,none⟩) jbs).trans jbe.out.2.2;clear e0 e1 e2 e3 w0 w1;clear y0 y1 x0 x1 x2 x3 x4 x5 x6 aV aW;have hparts:=UM s k m;unfold State.order at hparts
         rcases hparts with ⟨g1,g2,g3,hf⟩|⟨g1,g2,g3,hf⟩|⟨g1,g2,hf⟩|⟨g1,g2,g3,g4,hf⟩|⟨g1,g2,g3,g4,hf⟩|⟨g1,g2,g3,hf⟩
         ·have hfin:=Lib.hid (jf (p:=p) hlt (gW hml hf));clear hf;go_wp2_with fail;go_ret
          exact ⟨aY (by rw [hfin.out]),hb0.trans (hbw3.mono hb0.size)⟩
         ·have hf':=Lib.hid hf;clear hf;go_wp2_with fail;go_roundw
          case rel=>
           refine ⟨m+1,by omega,by go_num,fun j hj=>?_,zK⟩
           rcases dB.1 hj with h|rfl
           ·exact iP.out j h
           ·exact hf'.out
          case measure=>simp [intOf];omega
         ·have hfin:=Lib.hid (jf (p:=p) hlt (gW hml hf));clear hf;go_wp2_with fail;go_ret
          exact ⟨aY (by rw [hfin.out]),hb0.trans (hbw3.mono hb0.size)⟩
         ·have hfin:=Lib.hid (jf (p:=p) hlt (gW hml hf));clear hf;go_wp2_with fail;go_ret
          exact ⟨aY (by rw [hfin.out]),hb0.trans (hbw3.mono hb0.size)⟩
         ·have hf':=Lib.hid hf;clear hf;go_wp2_with fail;go_roundw
          case rel=>
           refine ⟨m+1,by omega,by go_num,fun j hj=>?_,zK⟩
           rcases dB.1 hj with h|rfl
           ·exact iP.out j h
           ·exact hf'.out
          case measure=>simp [intOf];omega
         ·have hf':=Lib.hid hf;clear hf;go_wp2_with fail;go_roundw
          case rel=>
           refine ⟨m+1,by omega,by go_num,fun j hj=>?_,zK⟩
           rcases dB.1 hj with h|rfl
           ·exact iP.out j h
           ·exact hf'.out
          case measure=>simp [intOf];omega
        ·obtain rfl:m=(ay s.orders k).lines.length:=by omega
         go_wp2_with fail;go_roundw
         case rel=>
          refine ⟨k+1,by omega,by go_num,fun j hj=>?_,hbw⟩
          rcases dB.1 hj with h|rfl
          ·exact Ky.out j h
          ·exact jP.2 ⟨hng.out,iP.out⟩
         case measure=>simp [intOf];omega
      ·have hfin:=Lib.hid (jf (p:=p) hlt (F5 jik.out DU));clear DU;go_wp2_with fail;go_ret
       exact ⟨aY (by rw [hfin.out]),hb0.trans ((hba.trans (hb2.mono hba.size)).mono hb0.size)⟩
     ·have hq:((ay s.orders k).kind==1)=false:=by simpa using hk1
      have hng:=Lib.hid (show ¬ ((s.order k).kind=1∧iH (s.order k)=true) from fun h=>hk1 h.1)
      clear hk1;go_wp2_with fail;clear hq;generalize hW2:wr.alloc (.cells #[.int .i64 (ay s.orders k).kind,.slice A' (ay s.orders k).lines.length c'] 42)=W2 at hba Y5 hla jbd ⊢
      have hbk:=hba;have hlk:=hla;have zo0:=jbd.out.1;have zo1:=jbd.out.2;have hLs:=Lib.hid (hsl.grow Y5);clear hba Y5 hla jbd hsl d0 d1 hW2;clear y0 y1 x0 x1 x2 x3 x4 x5 x6 aV aW;obtain ⟨wo,hwo⟩:∃ n:Nat,n=wr.heap.size:=⟨_,rfl⟩;rw [← hwo] at hlk zo0 zo1
      rw [← hwo];clear hwo;clear hbw hB;go_loopw [90,11,12,13,14,15] (fun i _ _ _ _ _ wr=>∃ m:Nat,m≤(ay s.orders k).lines.length∧i=.int .i64 m∧(∀ j,j<m→fM s k j=true)∧Below W2.heap.size W2 wr) (fun i _ _ _ _ _ _=>(ay s.orders k).lines.length - (intOf i).toNat)
      case atStart=>exact ⟨0,aT _,rfl,fun j hj=>by omega,aj _ _⟩
      case round=>
       obtain ⟨m,hm,rfl,pK,hbl⟩:=hrel;have iP:=Lib.hid pK;clear pK;have hbw:=hbk.trans (hbl.mono hbk.size);have hB:=hb0.trans (hbw.mono hb0.size);obtain ⟨⟨y0,y1⟩,x0,x1,x2,x3,x4,x5,x6,aV,aW⟩:=hK.out wr (hbw);have w0:=(hbl.cell (p:=⟨wo,0,none⟩) hlk).trans zo0;have w1:=(hbl.cell (p:=⟨wo,1,none⟩) hlk).trans zo1;have hlw:=aZ hlk hbl.size;by_cases hml:m<(ay s.orders k).lines.length
       ·obtain ⟨hok2,Jt,e0,e1,e2,e3⟩:=(hLs.out.grow hbl).at_.line hml;have hl:bH (ay s.orders k).lines m=s.line k m:=rfl;rw [hl] at e0 e1 e2 e3
        clear hl;obtain ⟨_,⟨b1,b2⟩,⟨b3,b4⟩,b5,b6⟩:=pJ.out.line hlt hml;obtain ⟨b7,b8⟩:=lK pJ.out.holds k m;have jkW:=Lib.hid (show (F7 s.holds k m).1=kept s.holds k m by rw [Mc pJ.out.holds])
        have hke2:=Lib.hid (show (F7 s.holds k m).2=0 by rw [Mc pJ.out.holds])
        have Ic:Below W2.heap.size W2 (wr.alloc (.cells #[.int .i64 (s.line k m).good,.int .i64 (s.line k m).want,.int .i64 (s.line k m).got,.int .i64 (s.line k m).back] 44)):=hbl.alloc hbl.size _;have jbs:wr.heap.size<(wr.alloc (.cells #[.int .i64 (s.line k m).good,.int .i64 (s.line k m).want,.int .i64 (s.line k m).got,.int .i64 (s.line k m).back] 44)).heap.size:=by simp
        have hzl:(wr.alloc (.cells #[.int .i64 (s.line k m).good,.int .i64 (s.line k m).want,.int .i64 (s.line k m).got,.int .i64 (s.line k m).back] 44)).cell? ⟨wr.heap.size,1,none⟩=some (.int .i64 (s.line k m).want)∧(wr.alloc (.cells #[.int .i64 (s.line k m).good,.int .i64 (s.line k m).want,.int .i64 (s.line k m).got,.int .i64 (s.line k m).back] 44)).cell? ⟨wr.heap.size,2,none⟩=some (.int .i64 (s.line k m).got)∧(wr.alloc (.cells #[.int .i64 (s.line k m).good,.int .i64 (s.line k m).want,.int .i64 (s.line k m).got,.int .i64 (s.line k m).back] 44)).cell? ⟨wr.heap.size,3,none⟩=some (.int .i64 (s.line k m).back):=by simp
        have jbe:=Lib.hid hzl;have jM:=hbk.trans (Ic.mono hbk.size);have hB1:=hb0.trans (jM.mono hb0.size);clear hzl;go_wp2_with fail;refine (jgb _ _ s.holds k m (hH.out _ hB1)).mono ?_
        rintro e W3 ⟨rfl,hb3⟩;rw [jkW.out,hke2.out];have zK:=Ic.trans (hb3.mono Ic.size);have hbw3:=hbk.trans (zK.mono hbk.size);have z0:=(zK.cell (p:=⟨wo,0,none⟩) hlk).trans zo0;have z1:=(hb3.cell (p:=⟨wr.heap.size,1,none⟩) jbs).trans jbe.out.1;have z2:=(hb3.cell (p:=⟨wr.heap.size,2,none⟩) jbs).trans jbe.out.2.1;have z3:=(hb3.cell (p:=⟨wr.heap.size,3,none⟩) jbs).trans jbe.out.2.2;clear e0 e1 e2 e3 w0 w1;clear y0 y1 x0 x1 x2 x3 x4 x5 x6 aV aW;have hparts:=UM s k m;unfold State.order at hparts
        rcases hparts with ⟨g1,g2,g3,hf⟩|⟨g1,g2,g3,hf⟩|⟨g1,g2,hf⟩|⟨g1,g2,g3,g4,hf⟩|⟨g1,g2,g3,g4,hf⟩|⟨g1,g2,g3,hf⟩
        ·have hfin:=Lib.hid (jf (p:=p) hlt (gW hml hf));clear hf;go_wp2_with fail;go_ret
         exact ⟨aY (by rw [hfin.out]),hb0.trans (hbw3.mono hb0.size)⟩
        ·have hf':=Lib.hid hf;clear hf;go_wp2_with fail;go_roundw
         case rel=>
          refine ⟨m+1,by omega,by go_num,fun j hj=>?_,zK⟩
          rcases dB.1 hj with h|rfl
          ·exact iP.out j h
          ·exact hf'.out
         case measure=>simp [intOf];omega
        ·have hfin:=Lib.hid (jf (p:=p) hlt (gW hml hf));clear hf;go_wp2_with fail;go_ret
         exact ⟨aY (by rw [hfin.out]),hb0.trans (hbw3.mono hb0.size)⟩
        ·have hfin:=Lib.hid (jf (p:=p) hlt (gW hml hf));clear hf;go_wp2_with fail;go_ret
         exact ⟨aY (by rw [hfin.out]),hb0.trans (hbw3.mono hb0.size)⟩
        ·have hf':=Lib.hid hf;clear hf;go_wp2_with fail;go_roundw
         case rel=>
          refine ⟨m+1,by omega,by go_num,fun j hj=>?_,zK⟩
          rcases dB.1 hj with h|rfl
          ·exact iP.out j h
          ·exact hf'.out
         case measure=>simp [intOf];omega
        ·have hf':=Lib.hid hf;clear hf;go_wp2_with fail;go_roundw
         case rel=>
          refine ⟨m+1,by omega,by go_num,fun j hj=>?_,zK⟩
          rcases dB.1 hj with h|rfl
          ·exact iP.out j h
          ·exact hf'.out
         case measure=>simp [intOf];omega
       ·obtain rfl:m=(ay s.orders k).lines.length:=by omega
        go_wp2_with fail;go_roundw
        case rel=>
         refine ⟨k+1,by omega,by go_num,fun j hj=>?_,hbw⟩
         rcases dB.1 hj with h|rfl
         ·exact Ky.out j h
         ·exact jP.2 ⟨hng.out,iP.out⟩
        case measure=>simp [intOf];omega
    ·obtain rfl:k=s.orders.length:=by omega
     have hfin:=Lib.hid (JY.2 ⟨hall'.out,Ky.out⟩);go_wp2_with fail;go_ret
     exact ⟨aY (by rw [hfin.out]),hB⟩
end Wh
namespace Wh
open Go Go.RowKit Go.Shelf Go.Proofs Tryz
attribute [local go_sem] au
theorem QN (s:State) (o k:Nat) (h:0≤kept s.holds o k):
  (((s.order o).kind==0)=true∧((s.order o).QT=0)=false∧((s.order o).kind==2)=false∧((s.line o k).got+(s.line o k).back+kept s.holds o k!=0)=true∧fM s o k=false)∨
  (((s.order o).kind==0)=true∧((s.order o).QT=0)=false∧((s.order o).kind==2)=false∧((s.line o k).got+(s.line o k).back+kept s.holds o k!=0)=false∧fM s o k=true)∨
  (((s.order o).kind==0)=false∧((s.order o).QT=0)=true∧((s.line o k).got+(s.line o k).back+kept s.holds o k!=(s.line o k).want)=true∧fM s o k=false)∨
  (((s.order o).kind==0)=false∧((s.order o).QT=0)=true∧((s.line o k).got+(s.line o k).back+kept s.holds o k!=(s.line o k).want)=false∧((s.order o).kind==2)=true∧(kept s.holds o k!=0)=true∧fM s o k=false)∨
  (((s.order o).kind==0)=false∧((s.order o).QT=0)=true∧((s.line o k).got+(s.line o k).back+kept s.holds o k!=(s.line o k).want)=false∧((s.order o).kind==2)=true∧(kept s.holds o k!=0)=false∧fM s o k=true)∨
  (((s.order o).kind==0)=false∧((s.order o).QT=0)=true∧((s.line o k).got+(s.line o k).back+kept s.holds o k!=(s.line o k).want)=false∧((s.order o).kind==2)=false∧fM s o k=true):=by
 unfold fM;have h3:0<kept s.holds o k↔¬ kept s.holds o k=0:=by omega
 by_cases h0:(s.order o).kind=0
 ·by_cases h1:(s.line o k).got+(s.line o k).back+kept s.holds o k=0<;>simp [h0,h1]
 ·by_cases h1:(s.line o k).got+(s.line o k).back+kept s.holds o k=(s.line o k).want<;>by_cases h2:(s.order o).kind=2<;>by_cases h3':kept s.holds o k=0<;>simp [h0,h1,h2,h3,h3']<;>omega
def Dv (o:Order) (k:Nat):Bool:=(o.lines.take k).all fun x=>decide (x.got=x.want)
theorem RD {o:Order} {k:Nat} (h:k<o.lines.length):Dv o (k+1)=(Dv o k&&decide ((bH o.lines k).got=(bH o.lines k).want)):=by
 unfold Dv;rw [l9 h,PW,iZ h];simp
theorem U1 (o:Order):Dv o o.lines.length=iH o:=by unfold Dv iH;rw [jE]
theorem jhK (w:World) (v vs:Value) (p:Plan) (s:State) (hp:fZ w w.heap.size v p) (hv:fE w w.heap.size vs s) (hs:iI p s):
  Calls prog 40 #[v,vs] w fun e w'=>e=.returned (.bool (summed p s))∧Below w.heap.size w w':=by
 have hcnt:=hs.counts;have h4:=hs.jh;have h72:=jJ hs.holds;have pJ:=Lib.hid hs;clear hs;obtain ⟨Ab,cb,As,cs,rfl,hP',hBn,hSz,hlb,hls⟩:=kN hp;obtain ⟨A0,c0,A1,c1,A2,c2,A3,c3,A4,c4,A5,c5,A6,c6,rfl,hV,hN,hO,hH,hM,hI,hU,hX,hl0,hl1,hl2,hl3,hl4,hl5,CW⟩:=iG hv;go_enter func40,ntmps40
 go_wp2_with fail;obtain ⟨W0,hW0,hb0,hsz0,hsz1,hsE,hK⟩:=uS w p s Ab cb As cs A0 c0 A1 c1 A2 c2 A3 c3 A4 c4 A5 c5 A6 c6;rw [hW0];clear hW0;obtain ⟨⟨y0,y1⟩,x0,x1,x2,x3,x4,x5,x6,aV,aW⟩:=hK.out W0 (aj W0.heap.size W0);go_loopw [5,6] (fun i _ wr=>∃ k:Nat,k≤p.sizes.length∧i=.int .i64 k∧(∀ j,j<k→ni p s j=true)∧Below W0.heap.size W0 wr) (fun i _ _=>p.sizes.length - (intOf i).toNat)
 case atStart=>exact ⟨0,aT _,rfl,fun j hj=>by omega,aj _ _⟩
 case round=>
  clear y0 y1 x0 x1 x2 x3 x4 x5 x6 aV aW;obtain ⟨k,hk,rfl,hall,hbw⟩:=hrel;have hall':=Lib.hid hall;clear hall;have hB:=hb0.trans (hbw.mono hb0.size);obtain ⟨⟨y0,y1⟩,x0,x1,x2,x3,x4,x5,x6,aV,aW⟩:=hK.out wr (hbw);by_cases hlt:k<p.sizes.length
  ·have hI4:k<s.inn.length:=by rw [pJ.out.inn.1];exact hlt
   have hI5:k<s.out.length:=by rw [pJ.out.out.1];exact hlt
   have Xr:k<s.fixed.length:=by rw [pJ.out.fixed.1];exact hlt
   obtain ⟨i1,i2⟩:=pJ.out.inn.2 hlt;obtain ⟨u1,u2⟩:=pJ.out.out.2 hlt;obtain ⟨f1,f2⟩:=pJ.out.fixed.2 hlt;obtain ⟨o4,l4,r4⟩:=(hI.out wr hB).at_.int hI4;obtain ⟨o5,l5,r5⟩:=(hU.out wr hB).at_.int hI5;obtain ⟨o6,l6,r6⟩:=(hX.out wr hB).at_.int Xr;have q1:=fun o d os=>aG (w:=wr) (b:=w.heap.size+1) aV o d os
   have q4:=fun o d os=>aG (w:=wr) (b:=dD A4) l4 o d os
   have q5:=fun o d os=>aG (w:=wr) (b:=dD A5) l5 o d os
   have q6:=fun o d os=>aG (w:=wr) (b:=dD A6) l6 o d os
   have hN2:=Lib.hid (fun d os=>hN.out _ (hB.trans ((dZ wr d os).mono hB.size)))
   have hw1:IntKind.i64.wrap (aC s.inn k - aC s.out k)=aC s.inn k - aC s.out k:=bf _ (by omega)
   have hw2:IntKind.i64.wrap (aC s.inn k - aC s.out k+aC s.fixed k)=aC s.inn k - aC s.out k+aC s.fixed k:=bf _ (by omega)
   by_cases hsum:sumOf s.on k=aC s.inn k - aC s.out k+aC s.fixed k
   ·have hne:(sumOf s.on k!=aC s.inn k - aC s.out k+aC s.fixed k)=false:=by simpa using hsum
    have jfC:=Lib.hid hsum;clear hsum;go_wp2_with fail;refine aJ (by kernel_rfl) (by kernel_rfl) ?_
    repeat (go_big_quiet_step ((go_at_call 91;refine sV (jeS _ _ p _ k (hN2.out _ _) pJ.out.shelf hlt))))
    refine wpQuiet_nil ?_
    intro W2 hw';have hb2:=aI hw';clear hw';clear q1 q4 q5 q6 hw1 hw2 hne;clear y0 y1 x0 x1 x2 x3 x4 x5 x6 aV aW;have hbw2:=hbw.trans (hb2.mono hbw.size);have hB2:=hb0.trans (hbw2.mono hb0.size);obtain ⟨⟨y0,y1⟩,x0,x1,x2,x3,x4,x5,x6,aV,aW⟩:=hK.out W2 (hbw2);go_wp2_with fail;go_loopw [6] (fun i wr=>∃ m:Nat,m≤p.aH.length∧i=.int .i64 m∧(∀ j,j<m→bound s j k≤cell s.on j k)∧Below W0.heap.size W0 wr) (fun i _=>p.aH.length - (intOf i).toNat)
    case atStart=>exact ⟨0,aT _,rfl,fun j hj=>by omega,hbw2⟩
    case round=>
     clear y0 y1 x0 x1 x2 x3 x4 x5 x6 aV aW;clear r4 r5 r6 hbw hB hb2 hbw2 hB2;obtain ⟨m,hm,rfl,pK,hbw⟩:=hrel;have iP:=Lib.hid pK;clear pK;have hB:=hb0.trans (hbw.mono hb0.size);obtain ⟨⟨y0,y1⟩,x0,x1,x2,x3,x4,x5,x6,aV,aW⟩:=hK.out wr (hbw);by_cases hml:m<p.aH.length
     ·have hml':m<s.on.length:=by rw [pJ.out.ku];exact hml
      have hkr:k<(rowAt s.on m).length:=by rw [pJ.out.rowLen hml];exact hlt
      obtain ⟨Ar,cr,YF,N8,Ux,hrow⟩:=(hN.out wr hB).row hml';obtain ⟨YE,lr1,KP⟩:=hrow.at_.int hkr;have q1:=fun o d os=>aG (w:=wr) (b:=w.heap.size+1) aV o d os
      have q2:=fun o d os=>aG (w:=wr) (b:=dD A0) N8 o d os
      have q3:=fun o d os=>aG (w:=wr) (b:=dD Ar) lr1 o d os
      have hV2:=Lib.hid (fun d os=>hV.out _ (hB.trans ((dZ wr d os).mono hB.size)))
      have hcl:aC (rowAt s.on m) k=cell s.on m k:=rfl;have hcl':=Lib.hid hcl;clear hcl;by_cases hbd:bound s m k≤cell s.on m k
      ·have hd:decide (aC (rowAt s.on m) k<bound s m k)=false:=by rw [hcl'.out];simpa using hbd
       have jlk:=Lib.hid hbd;clear hbd;go_wp2_with fail;refine aJ (by kernel_rfl) (by kernel_rfl) ?_
       repeat (go_big_quiet_step ((go_at_call 70;refine bD (VN _ _ p s _ _ (hV2.out _ _) pJ.out))))
       refine wpQuiet_nil ?_
       intro W2 hw';have hb2:=aI hw';clear hw';clear q1 q2 q3;go_wp2_with fail;go_roundw
       case rel=>
        refine ⟨m+1,by omega,by go_num,fun j hj=>?_,hbw.trans (hb2.mono hbw.size)⟩
        rcases dB.1 hj with h|rfl
        ·exact iP.out j h
        ·exact jlk.out
       case measure=>simp [intOf];omega
      ·have hd:decide (aC (rowAt s.on m) k<bound s m k)=true:=by rw [hcl'.out];simpa using hbd
       have hfin:=Lib.hid (Df hlt (Ii hml (show cell s.on m k<bound s m k by omega)))
       clear hbd;go_wp2_with fail;refine aJ (by kernel_rfl) (by kernel_rfl) ?_
       repeat (go_big_quiet_step ((go_at_call 70;refine bD (VN _ _ p s _ _ (hV2.out _ _) pJ.out))))
       refine wpQuiet_nil ?_
       intro W2 hw';have hb2:=aI hw';clear hw';clear q1 q2 q3;go_wp2_with fail;go_ret
       exact ⟨aY (by rw [hfin.out]),hB.trans (hb2.mono hB.size)⟩
     ·obtain rfl:m=p.aH.length:=by omega
      go_wp2_with fail;go_roundw
      case rel=>
       refine ⟨k+1,by omega,by go_num,fun j hj=>?_,hbw⟩
       rcases dB.1 hj with h|rfl
       ·exact hall'.out j h
       ·exact oC.2 ⟨jfC.out,iP.out⟩
      case measure=>simp [intOf];omega
   ·have hne:(sumOf s.on k!=aC s.inn k - aC s.out k+aC s.fixed k)=true:=by simpa using hsum
    have hfin:=Lib.hid (Df hlt (Ih hsum));clear hsum;go_wp2_with fail;refine aJ (by kernel_rfl) (by kernel_rfl) ?_
    repeat (go_big_quiet_step ((go_at_call 91;refine sV (jeS _ _ p _ k (hN2.out _ _) pJ.out.shelf hlt))))
    refine wpQuiet_nil ?_
    intro W2 hw';have hb2:=aI hw';clear hw';clear q1 q4 q5 q6 hw1 hw2 hne;go_wp2_with fail;go_ret
    exact ⟨aY (by rw [hfin.out]),hB.trans (hb2.mono hB.size)⟩
  ·obtain rfl:k=p.sizes.length:=by omega
   go_wp2_with fail;go_loopw [7,8,9,10,11,12,13] (fun i _ _ _ _ _ _ wr=>∃ k:Nat,k≤s.orders.length∧i=.int .i64 k∧(∀ j,j<k→mP s j=true)∧Below W0.heap.size W0 wr) (fun i _ _ _ _ _ _ _=>s.orders.length - (intOf i).toNat)
   case atStart=>exact ⟨0,aT _,rfl,fun j hj=>by omega,hbw⟩
   case round=>
    clear y0 y1 x0 x1 x2 x3 x4 x5 x6 aV aW;clear hbw hB;obtain ⟨k,hk,rfl,Zo,hbw⟩:=hrel;have Ky:=Lib.hid Zo;clear Zo;have hB:=hb0.trans (hbw.mono hb0.size);obtain ⟨⟨y0,y1⟩,x0,x1,x2,x3,x4,x5,x6,aV,aW⟩:=hK.out wr (hbw);by_cases hlt:k<s.orders.length
    ·obtain ⟨A',c',hok1,yw,d0,d1,hsl⟩:=(hO.out wr hB).order hlt;obtain ⟨l1,l3⟩:=pJ.out.jX hlt;change 1≤(ay s.orders k).lines.length at l1
     change (ay s.orders k).lines.length≤3 at l3
     go_wp2_with fail;go_loopw [8,9] (fun b i wr=>∃ m:Nat,m≤(ay s.orders k).lines.length∧i=.int .i64 m∧b=.bool (Dv (ay s.orders k) m)∧Below W0.heap.size W0 wr) (fun _ i _=>(ay s.orders k).lines.length - (intOf i).toNat)
     case atStart=>exact ⟨0,aT _,rfl,rfl,hbw⟩
     case round=>
      clear y0 y1 x0 x1 x2 x3 x4 x5 x6 aV aW;clear hbw hB hok1 yw d0 d1 hsl;obtain ⟨m,hm,rfl,rfl,hbw⟩:=hrel;have hB:=hb0.trans (hbw.mono hb0.size);obtain ⟨⟨y0,y1⟩,x0,x1,x2,x3,x4,x5,x6,aV,aW⟩:=hK.out wr (hbw);obtain ⟨A',c',hok1,yw,d0,d1,hsl⟩:=(hO.out wr hB).order hlt;by_cases hml:m<(ay s.orders k).lines.length
      ·obtain ⟨hok2,Jt,e0,e1,e2,e3⟩:=hsl.at_.line hml;have hsu:=RD hml;cases hg:Dv (ay s.orders k) m
       ·rw [hg,GU] at hsu
        have jfD:=Lib.hid hsu;clear hsu hg;go_wp2_with fail;go_quiet (fail)
        go_wp2_with fail;go_roundw
        case rel=>exact ⟨m+1,by omega,by go_num,by rw [jfD.out],below_drewN hbw _⟩
        case measure=>simp [intOf];omega
       ·rw [hg,rU] at hsu
        by_cases hgw:(bH (ay s.orders k).lines m).got=(bH (ay s.orders k).lines m).want
        ·have hq:((bH (ay s.orders k).lines m).got==(bH (ay s.orders k).lines m).want)=true:=by simpa using hgw
         rw [lg hgw] at hsu
         have jfD:=Lib.hid hsu;clear hsu hg hgw;go_wp2_with fail;go_quiet (fail)
         go_wp2_with fail;go_roundw
         case rel=>exact ⟨m+1,by omega,by go_num,by rw [jfD.out],below_drewN hbw _⟩
         case measure=>simp [intOf];omega
        ·have hq:((bH (ay s.orders k).lines m).got==(bH (ay s.orders k).lines m).want)=false:=by simpa using hgw
         rw [iU hgw] at hsu
         have jfD:=Lib.hid hsu;clear hsu hg hgw;go_wp2_with fail;go_quiet (fail)
         go_wp2_with fail;go_roundw
         case rel=>exact ⟨m+1,by omega,by go_num,by rw [jfD.out],below_drewN hbw _⟩
         case measure=>simp [intOf];omega
      ·obtain rfl:m=(ay s.orders k).lines.length:=by omega
       rw [U1];cases hag:iH (ay s.orders k)
       ·have hng:=Lib.hid (show ¬ ((s.order k).kind=1∧iH (s.order k)=true) by unfold State.order;rw [hag];simp)
        clear hag;go_wp2_with fail;go_loopw [10,11,12,13] (fun i _ _ _ wr=>∃ m:Nat,m≤(ay s.orders k).lines.length∧i=.int .i64 m∧(∀ j,j<m→fM s k j=true)∧Below W0.heap.size W0 wr) (fun i _ _ _ _=>(ay s.orders k).lines.length - (intOf i).toNat)
        case atStart=>exact ⟨0,aT _,rfl,fun j hj=>by omega,hbw⟩
        case round=>
         clear y0 y1 x0 x1 x2 x3 x4 x5 x6 aV aW;clear hbw hB hok1 yw d0 d1 hsl;obtain ⟨m,hm,rfl,pK,hbw⟩:=hrel;have iP:=Lib.hid pK;clear pK;have hB:=hb0.trans (hbw.mono hb0.size);obtain ⟨⟨y0,y1⟩,x0,x1,x2,x3,x4,x5,x6,aV,aW⟩:=hK.out wr (hbw);obtain ⟨A',c',hok1,yw,d0,d1,hsl⟩:=(hO.out wr hB).order hlt;by_cases hml:m<(ay s.orders k).lines.length
         ·obtain ⟨hok2,Jt,e0,e1,e2,e3⟩:=hsl.at_.line hml;have hl:bH (ay s.orders k).lines m=s.line k m:=rfl;rw [hl] at e0 e1 e2 e3
          clear hl;obtain ⟨_,⟨b1,b2⟩,⟨b3,b4⟩,b5,b6⟩:=pJ.out.line hlt hml;obtain ⟨b7,b8⟩:=lK pJ.out.holds k m;go_wp2_with fail;have hBd:Below w.heap.size w wr.drew:=hB.drew;go_region_held3 (fun w'=>w'.cell? ⟨w.heap.size+1,1,none⟩=some (.slice A1 s.orders.length c1)∧w'.cell? ⟨w.heap.size+1,2,none⟩=some (.slice A2 s.holds.length c2)∧w'.cell? ⟨dD A1,jy A1+k*2+1,none⟩=some (.slice A' (ay s.orders k).lines.length c')∧
           w'.cell? ⟨dD A',jy A'+m*4,none⟩=some (.int .i64 (s.line k m).good)∧w'.cell? ⟨dD A',jy A'+m*4+1,none⟩=some (.int .i64 (s.line k m).want)∧w'.cell? ⟨dD A',jy A'+m*4+2,none⟩=some (.int .i64 (s.line k m).got)∧w'.cell? ⟨dD A',jy A'+m*4+3,none⟩=some (.int .i64 (s.line k m).back)) (first|go_keep)
           (first
           |(go_at_call 92;refine (OY _ _ s.holds k m (hH.out _ hBd) pJ.out.holds).mono ?_;rintro e w' ⟨rfl,rfl⟩)
           |(go_at_call 92;refine (OY _ _ s.holds k m (hH.out _ (hBd.alloc hBd.size _)) pJ.out.holds).mono ?_;rintro e w' ⟨rfl,rfl⟩))
          all_goals
           have jM:Below W0.heap.size W0 (wr.alloc (.cells #[.int .i64 (s.line k m).good,.int .i64 (s.line k m).want,.int .i64 (s.line k m).got,.int .i64 (s.line k m).back] 44)).drew:=(hbw.alloc hbw.size _).drew;have hbk1:dD A1<(wr.alloc (.cells #[.int .i64 (s.line k m).good,.int .i64 (s.line k m).want,.int .i64 (s.line k m).got,.int .i64 (s.line k m).back] 44)).drew.heap.size:=by simp;omega
           have hd0:(wr.alloc (.cells #[.int .i64 (s.line k m).good,.int .i64 (s.line k m).want,.int .i64 (s.line k m).got,.int .i64 (s.line k m).back] 44)).drew.cell? ⟨dD A1,jy A1+k*2,none⟩=some (.int .i64 (ay s.orders k).kind):=(((aj _ _).alloc (aA _) _).drew.cell (p:=⟨dD A1,jy A1+k*2,none⟩) yw).trans d0;have hzl:(wr.alloc (.cells #[.int .i64 (s.line k m).good,.int .i64 (s.line k m).want,.int .i64 (s.line k m).got,.int .i64 (s.line k m).back] 44)).drew.cell? ⟨wr.heap.size,1,none⟩=some (.int .i64 (s.line k m).want)∧(wr.alloc (.cells #[.int .i64 (s.line k m).good,.int .i64 (s.line k m).want,.int .i64 (s.line k m).got,.int .i64 (s.line k m).back] 44)).drew.cell? ⟨wr.heap.size,2,none⟩=some (.int .i64 (s.line k m).got)∧(wr.alloc (.cells #[.int .i64 (s.line k m).good,.int .i64 (s.line k m).want,.int .i64 (s.line k m).got,.int .i64 (s.line k m).back] 44)).drew.cell? ⟨wr.heap.size,3,none⟩=some (.int .i64 (s.line k m).back):=by simp
           clear d0 d1 e0 e1 e2 e3;clear y0 y1 x0 x1 x2 x3 x4 x5 x6 aV aW;obtain ⟨⟨y0,y1⟩,x0,x1,x2,x3,x4,x5,x6,_⟩:=hK.out _ jM;have aV:=aZ hsz0 jM.size;have aW:=aZ hsz1 jM.size;generalize (wr.alloc (.cells #[.int .i64 (s.line k m).good,.int .i64 (s.line k m).want,.int .i64 (s.line k m).got,.int .i64 (s.line k m).back] 44)).drew=Wq at jM hbk1 hd0 hzl y0 y1 x0 x1 x2 x3 x4 x5 x6 aV aW ⊢
           obtain ⟨z1,z2,z3⟩:=hzl;have hparts:=QN s k m b7;unfold State.order at hparts
           rcases hparts with ⟨g1,g2,g3,g4,hf⟩|⟨g1,g2,g3,g4,hf⟩|⟨g1,g2,g3,hf⟩|⟨g1,g2,g3,g4,g5,hf⟩|⟨g1,g2,g3,g4,g5,hf⟩|⟨g1,g2,g3,g4,hf⟩
           ·have hfin:=Lib.hid (jf (p:=p) hlt (gW hml hf));clear hf;go_wp2_with fail;go_ret
            exact ⟨aY (by rw [hfin.out]),hb0.trans (jM.mono hb0.size)⟩
           ·have hf':=Lib.hid hf;clear hf;go_wp2_with fail;go_roundw
            case rel=>
             refine ⟨m+1,by omega,by go_num,fun j hj=>?_,jM⟩
             rcases dB.1 hj with h|rfl
             ·exact iP.out j h
             ·exact hf'.out
            case measure=>simp [intOf];omega
           ·have hfin:=Lib.hid (jf (p:=p) hlt (gW hml hf));clear hf;go_wp2_with fail;go_ret
            exact ⟨aY (by rw [hfin.out]),hb0.trans (jM.mono hb0.size)⟩
           ·have hfin:=Lib.hid (jf (p:=p) hlt (gW hml hf));clear hf;go_wp2_with fail;go_ret
            exact ⟨aY (by rw [hfin.out]),hb0.trans (jM.mono hb0.size)⟩
           ·have hf':=Lib.hid hf;clear hf;go_wp2_with fail;go_roundw
            case rel=>
             refine ⟨m+1,by omega,by go_num,fun j hj=>?_,jM⟩
             rcases dB.1 hj with h|rfl
             ·exact iP.out j h
             ·exact hf'.out
            case measure=>simp [intOf];omega
           ·have hf':=Lib.hid hf;clear hf;go_wp2_with fail;go_roundw
            case rel=>
             refine ⟨m+1,by omega,by go_num,fun j hj=>?_,jM⟩
             rcases dB.1 hj with h|rfl
             ·exact iP.out j h
             ·exact hf'.out
            case measure=>simp [intOf];omega
         ·obtain rfl:m=(ay s.orders k).lines.length:=by omega
          go_wp2_with fail;go_roundw
          case rel=>
           refine ⟨k+1,by omega,by go_num,fun j hj=>?_,hbw⟩
           rcases dB.1 hj with h|rfl
           ·exact Ky.out j h
           ·exact jP.2 ⟨hng.out,iP.out⟩
          case measure=>simp [intOf];omega
       ·by_cases hk1:(ay s.orders k).kind=1
        ·have hq:((ay s.orders k).kind==1)=true:=by simpa using hk1
         have hfin:=Lib.hid (jf (p:=p) hlt (F5 (o:=k) hk1 hag));clear hk1 hag;go_wp2_with fail;go_ret
         exact ⟨aY (by rw [hfin.out]),hB⟩
        ·have hq:((ay s.orders k).kind==1)=false:=by simpa using hk1
         have hng:=Lib.hid (show ¬ ((s.order k).kind=1∧iH (s.order k)=true) from fun h=>hk1 h.1)
         clear hag hk1;go_wp2_with fail;clear hq;go_loopw [10,11,12,13] (fun i _ _ _ wr=>∃ m:Nat,m≤(ay s.orders k).lines.length∧i=.int .i64 m∧(∀ j,j<m→fM s k j=true)∧Below W0.heap.size W0 wr) (fun i _ _ _ _=>(ay s.orders k).lines.length - (intOf i).toNat)
         case atStart=>exact ⟨0,aT _,rfl,fun j hj=>by omega,hbw⟩
         case round=>
          clear y0 y1 x0 x1 x2 x3 x4 x5 x6 aV aW;clear hbw hB hok1 yw d0 d1 hsl;obtain ⟨m,hm,rfl,pK,hbw⟩:=hrel;have iP:=Lib.hid pK;clear pK;have hB:=hb0.trans (hbw.mono hb0.size);obtain ⟨⟨y0,y1⟩,x0,x1,x2,x3,x4,x5,x6,aV,aW⟩:=hK.out wr (hbw);obtain ⟨A',c',hok1,yw,d0,d1,hsl⟩:=(hO.out wr hB).order hlt;by_cases hml:m<(ay s.orders k).lines.length
          ·obtain ⟨hok2,Jt,e0,e1,e2,e3⟩:=hsl.at_.line hml;have hl:bH (ay s.orders k).lines m=s.line k m:=rfl;rw [hl] at e0 e1 e2 e3
           clear hl;obtain ⟨_,⟨b1,b2⟩,⟨b3,b4⟩,b5,b6⟩:=pJ.out.line hlt hml;obtain ⟨b7,b8⟩:=lK pJ.out.holds k m;go_wp2_with fail;have hBd:Below w.heap.size w wr.drew:=hB.drew;go_region_held3 (fun w'=>w'.cell? ⟨w.heap.size+1,1,none⟩=some (.slice A1 s.orders.length c1)∧w'.cell? ⟨w.heap.size+1,2,none⟩=some (.slice A2 s.holds.length c2)∧w'.cell? ⟨dD A1,jy A1+k*2+1,none⟩=some (.slice A' (ay s.orders k).lines.length c')∧
            w'.cell? ⟨dD A',jy A'+m*4,none⟩=some (.int .i64 (s.line k m).good)∧w'.cell? ⟨dD A',jy A'+m*4+1,none⟩=some (.int .i64 (s.line k m).want)∧w'.cell? ⟨dD A',jy A'+m*4+2,none⟩=some (.int .i64 (s.line k m).got)∧w'.cell? ⟨dD A',jy A'+m*4+3,none⟩=some (.int .i64 (s.line k m).back)) (first|go_keep)
            (first
            |(go_at_call 92;refine (OY _ _ s.holds k m (hH.out _ hBd) pJ.out.holds).mono ?_;rintro e w' ⟨rfl,rfl⟩)
            |(go_at_call 92;refine (OY _ _ s.holds k m (hH.out _ (hBd.alloc hBd.size _)) pJ.out.holds).mono ?_;rintro e w' ⟨rfl,rfl⟩))
           all_goals
            have jM:Below W0.heap.size W0 (wr.alloc (.cells #[.int .i64 (s.line k m).good,.int .i64 (s.line k m).want,.int .i64 (s.line k m).got,.int .i64 (s.line k m).back] 44)).drew:=(hbw.alloc hbw.size _).drew;have hbk1:dD A1<(wr.alloc (.cells #[.int .i64 (s.line k m).good,.int .i64 (s.line k m).want,.int .i64 (s.line k m).got,.int .i64 (s.line k m).back] 44)).drew.heap.size:=by simp;omega
            have hd0:(wr.alloc (.cells #[.int .i64 (s.line k m).good,.int .i64 (s.line k m).want,.int .i64 (s.line k m).got,.int .i64 (s.line k m).back] 44)).drew.cell? ⟨dD A1,jy A1+k*2,none⟩=some (.int .i64 (ay s.orders k).kind):=(((aj _ _).alloc (aA _) _).drew.cell (p:=⟨dD A1,jy A1+k*2,none⟩) yw).trans d0;have hzl:(wr.alloc (.cells #[.int .i64 (s.line k m).good,.int .i64 (s.line k m).want,.int .i64 (s.line k m).got,.int .i64 (s.line k m).back] 44)).drew.cell? ⟨wr.heap.size,1,none⟩=some (.int .i64 (s.line k m).want)∧(wr.alloc (.cells #[.int .i64 (s.line k m).good,.int .i64 (s.line k m).want,.int .i64 (s.line k m).got,.int .i64 (s.line k m).back] 44)).drew.cell? ⟨wr.heap.size,2,none⟩=some (.int .i64 (s.line k m).got)∧(wr.alloc (.cells #[.int .i64 (s.line k m).good,.int .i64 (s.line k m).want,.int .i64 (s.line k m).got,.int .i64 (s.line k m).back] 44)).drew.cell? ⟨wr.heap.size,3,none⟩=some (.int .i64 (s.line k m).back):=by simp
            clear d0 d1 e0 e1 e2 e3;clear y0 y1 x0 x1 x2 x3 x4 x5 x6 aV aW;obtain ⟨⟨y0,y1⟩,x0,x1,x2,x3,x4,x5,x6,_⟩:=hK.out _ jM;have aV:=aZ hsz0 jM.size;have aW:=aZ hsz1 jM.size;generalize (wr.alloc (.cells #[.int .i64 (s.line k m).good,.int .i64 (s.line k m).want,.int .i64 (s.line k m).got,.int .i64 (s.line k m).back] 44)).drew=Wq at jM hbk1 hd0 hzl y0 y1 x0 x1 x2 x3 x4 x5 x6 aV aW ⊢
            obtain ⟨z1,z2,z3⟩:=hzl;have hparts:=QN s k m b7;unfold State.order at hparts
            rcases hparts with ⟨g1,g2,g3,g4,hf⟩|⟨g1,g2,g3,g4,hf⟩|⟨g1,g2,g3,hf⟩|⟨g1,g2,g3,g4,g5,hf⟩|⟨g1,g2,g3,g4,g5,hf⟩|⟨g1,g2,g3,g4,hf⟩
            ·have hfin:=Lib.hid (jf (p:=p) hlt (gW hml hf));clear hf;go_wp2_with fail;go_ret
             exact ⟨aY (by rw [hfin.out]),hb0.trans (jM.mono hb0.size)⟩
            ·have hf':=Lib.hid hf;clear hf;go_wp2_with fail;go_roundw
             case rel=>
              refine ⟨m+1,by omega,by go_num,fun j hj=>?_,jM⟩
              rcases dB.1 hj with h|rfl
              ·exact iP.out j h
              ·exact hf'.out
             case measure=>simp [intOf];omega
            ·have hfin:=Lib.hid (jf (p:=p) hlt (gW hml hf));clear hf;go_wp2_with fail;go_ret
             exact ⟨aY (by rw [hfin.out]),hb0.trans (jM.mono hb0.size)⟩
            ·have hfin:=Lib.hid (jf (p:=p) hlt (gW hml hf));clear hf;go_wp2_with fail;go_ret
             exact ⟨aY (by rw [hfin.out]),hb0.trans (jM.mono hb0.size)⟩
            ·have hf':=Lib.hid hf;clear hf;go_wp2_with fail;go_roundw
             case rel=>
              refine ⟨m+1,by omega,by go_num,fun j hj=>?_,jM⟩
              rcases dB.1 hj with h|rfl
              ·exact iP.out j h
              ·exact hf'.out
             case measure=>simp [intOf];omega
            ·have hf':=Lib.hid hf;clear hf;go_wp2_with fail;go_roundw
             case rel=>
              refine ⟨m+1,by omega,by go_num,fun j hj=>?_,jM⟩
              rcases dB.1 hj with h|rfl
              ·exact iP.out j h
              ·exact hf'.out
             case measure=>simp [intOf];omega
          ·obtain rfl:m=(ay s.orders k).lines.length:=by omega
           go_wp2_with fail;go_roundw
           case rel=>
            refine ⟨k+1,by omega,by go_num,fun j hj=>?_,hbw⟩
            rcases dB.1 hj with h|rfl
            ·exact Ky.out j h
            ·exact jP.2 ⟨hng.out,iP.out⟩
           case measure=>simp [intOf];omega
    ·obtain rfl:k=s.orders.length:=by omega
     have hfin:=Lib.hid (JY.2 ⟨hall'.out,Ky.out⟩);go_wp2_with fail;go_ret
     exact ⟨aY (by rw [hfin.out]),hB⟩
end Wh
