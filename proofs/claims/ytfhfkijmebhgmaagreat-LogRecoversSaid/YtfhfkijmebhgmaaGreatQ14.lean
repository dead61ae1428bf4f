/- Texts of the claim, joined. -/
import Derived.Laws.EntriesVeiled
import Derived.Test.YtfhfkijmebhgmaaGreatQ13
set_option maxHeartbeats 20000000
set_option maxRecDepth 100000
namespace Wh
open Go Go.RowKit Go.Shelf Go.Proofs Tryz
attribute [local go_sem] aT
theorem KD{p:dA}{s:aJ}{o:Nat}(ho:o<s.ak.length)(h:wW p (aU s.ak o)=false):oQ p s=false:=by
 unfold oQ;rw[joD Gw ho h];simp
theorem jgB{l:List dZ}(h:iD l=true):lT l=0:=by unfold lT;rw[h];rfl
theorem jbl(p:dA)(o:Order):(o.dW<0/\wW p o=false)\/(0<=o.dW/\2<o.dW/\wW p o=false)\/(0<=o.dW/\o.dW<=2/\(o.aH.any λx=>!tV p x)=true/\wW p o=false)\/
  (0<=o.dW/\o.dW<=2/\(o.aH.any λx=>!tV p x)=false/\wW p o=true):=by
 have h:=@EM p o;rw[FP];cases hq:wW p o<;>cases hl:o.aH.all (tV p)<;>simp only[hq,hl,iE,vg,uG,mD,qm]at h<;>
  simp only[reduceCtorEq,wH,rX,mD,qm,ny,wY]<;>omega
theorem ja4{p:dA}{s:aJ}(h:s.ak.all (wW p)=true):oQ p s=(iD s.aA&&(!(s.aA.any λx=>!yQ p s x)&&(!(s.aF.any λx=>!sO p x)&&(uN p s.gY 0&&(uN p s.O 0&&uN p s.bg (-1048576)))))):=by
 unfold oQ;rw[h,FP,FP];simp[Bool.and_assoc]
theorem jkh(w:World)(v vs:Value)(p:dA)(s:aJ)(hp:mW w w.heap.size v p)(hv:lK w w.heap.size vs s)(hz:gQ p=0)(h4:s.ak.length<=4)(jiC:∀o,o<s.ak.length->(aU s.ak o).aH.length<=1000):
  Calls prog 78 #[v,vs] w λe w'=>e=.returned (.bool (oQ p s))/\Below w.heap.size w w':=by
 have hP:=hp;obtain⟨_,_,rfl,⟨Ab,cb,rfl,hlb,hb⟩,⟨As,cs,rfl,hls,hs⟩⟩:=hp;have hS:=hv;obtain⟨_,_,_,_,_,_,_,rfl,⟨A0,c0,vs0,rfl,hl0,hm0,ha0,hr0⟩,⟨A1,c1,vs1,rfl,hl1,hm1,ha1,hr1⟩,⟨A2,c2,rfl,hl2,ha2⟩,⟨A3,c3,rfl,hl3,ha3⟩,⟨A4,c4,rfl,hl4,ha4⟩,⟨A5,c5,rfl,hl5,ha5⟩,⟨A6,c6,rfl,JA,ha6⟩⟩:=hv;have hb0:Below w.heap.size w ((w.alloc (.cells #[.slice Ab p.bQ.length cb,.slice As p.aP.length cs] 25)).alloc (.cells #[.slice A0 s.on.length c0,.slice A1 s.ak.length c1,.slice A2 s.aA.length c2,.slice A3 s.aF.length c3,.slice A4 s.gY.length c4,.slice A5 s.O.length c5,.slice A6 s.bg.length c6] 31)):=((aj _ _).alloc (au _) _).alloc (by simp) _
 have lg:w.heap.size+1<((w.alloc (.cells #[.slice Ab p.bQ.length cb,.slice As p.aP.length cs] 25)).alloc (.cells #[.slice A0 s.on.length c0,.slice A1 s.ak.length c1,.slice A2 s.aA.length c2,.slice A3 s.aF.length c3,.slice A4 s.gY.length c4,.slice A5 s.O.length c5,.slice A6 s.bg.length c6] 31)).heap.size:=by simp
 have hz0:(((w.alloc (.cells #[.slice Ab p.bQ.length cb,.slice As p.aP.length cs] 25)).alloc (.cells #[.slice A0 s.on.length c0,.slice A1 s.ak.length c1,.slice A2 s.aA.length c2,.slice A3 s.aF.length c3,.slice A4 s.gY.length c4,.slice A5 s.O.length c5,.slice A6 s.bg.length c6] 31)).cell? ⟨w.heap.size,0,none⟩=some (.slice Ab p.bQ.length cb)/\((w.alloc (.cells #[.slice Ab p.bQ.length cb,.slice As p.aP.length cs] 25)).alloc (.cells #[.slice A0 s.on.length c0,.slice A1 s.ak.length c1,.slice A2 s.aA.length c2,.slice A3 s.aF.length c3,.slice A4 s.gY.length c4,.slice A5 s.O.length c5,.slice A6 s.bg.length c6] 31)).cell? ⟨w.heap.size,1,none⟩=some (.slice As p.aP.length cs))/\
   ((w.alloc (.cells #[.slice Ab p.bQ.length cb,.slice As p.aP.length cs] 25)).alloc (.cells #[.slice A0 s.on.length c0,.slice A1 s.ak.length c1,.slice A2 s.aA.length c2,.slice A3 s.aF.length c3,.slice A4 s.gY.length c4,.slice A5 s.O.length c5,.slice A6 s.bg.length c6] 31)).cell? ⟨w.heap.size+1,1,none⟩=some (.slice A1 s.ak.length c1)/\((w.alloc (.cells #[.slice Ab p.bQ.length cb,.slice As p.aP.length cs] 25)).alloc (.cells #[.slice A0 s.on.length c0,.slice A1 s.ak.length c1,.slice A2 s.aA.length c2,.slice A3 s.aF.length c3,.slice A4 s.gY.length c4,.slice A5 s.O.length c5,.slice A6 s.bg.length c6] 31)).cell? ⟨w.heap.size+1,2,none⟩=some (.slice A2 s.aA.length c2)/\((w.alloc (.cells #[.slice Ab p.bQ.length cb,.slice As p.aP.length cs] 25)).alloc (.cells #[.slice A0 s.on.length c0,.slice A1 s.ak.length c1,.slice A2 s.aA.length c2,.slice A3 s.aF.length c3,.slice A4 s.gY.length c4,.slice A5 s.O.length c5,.slice A6 s.bg.length c6] 31)).cell? ⟨w.heap.size+1,3,none⟩=some (.slice A3 s.aF.length c3)/\
   ((w.alloc (.cells #[.slice Ab p.bQ.length cb,.slice As p.aP.length cs] 25)).alloc (.cells #[.slice A0 s.on.length c0,.slice A1 s.ak.length c1,.slice A2 s.aA.length c2,.slice A3 s.aF.length c3,.slice A4 s.gY.length c4,.slice A5 s.O.length c5,.slice A6 s.bg.length c6] 31)).cell? ⟨w.heap.size+1,4,none⟩=some (.slice A4 s.gY.length c4)/\((w.alloc (.cells #[.slice Ab p.bQ.length cb,.slice As p.aP.length cs] 25)).alloc (.cells #[.slice A0 s.on.length c0,.slice A1 s.ak.length c1,.slice A2 s.aA.length c2,.slice A3 s.aF.length c3,.slice A4 s.gY.length c4,.slice A5 s.O.length c5,.slice A6 s.bg.length c6] 31)).cell? ⟨w.heap.size+1,5,none⟩=some (.slice A5 s.O.length c5)/\((w.alloc (.cells #[.slice Ab p.bQ.length cb,.slice As p.aP.length cs] 25)).alloc (.cells #[.slice A0 s.on.length c0,.slice A1 s.ak.length c1,.slice A2 s.aA.length c2,.slice A3 s.aF.length c3,.slice A4 s.gY.length c4,.slice A5 s.O.length c5,.slice A6 s.bg.length c6] 31)).cell? ⟨w.heap.size+1,6,none⟩=some (.slice A6 s.bg.length c6):=by simp
 have hO:=ah (λW (hW:Below w.heap.size w W)=>(nJ.up ⟨A1,c1,vs1,rfl,hl1,hm1,ha1,hr1⟩ hW hW.size:nJ W W.heap.size (.slice A1 s.ak.length c1) s.ak))
 have hH:=ah (λW (hW:Below w.heap.size w W)=>(Sl.up ⟨A2,c2,rfl,hl2,ha2⟩ hW hW.size:Sl ig W W.heap.size (.slice A2 s.aA.length c2) s.aA))
 have hM:=ah (λW (hW:Below w.heap.size w W)=>(Sl.up ⟨A3,c3,rfl,hl3,ha3⟩ hW hW.size:Sl nP W W.heap.size (.slice A3 s.aF.length c3) s.aF))
 have hI:=ah (λW (hW:Below w.heap.size w W)=>(Sl.up ⟨A4,c4,rfl,hl4,ha4⟩ hW hW.size:Sl jJ W W.heap.size (.slice A4 s.gY.length c4) s.gY))
 have hU:=ah (λW (hW:Below w.heap.size w W)=>(Sl.up ⟨A5,c5,rfl,hl5,ha5⟩ hW hW.size:Sl jJ W W.heap.size (.slice A5 s.O.length c5) s.O))
 have hX:=ah (λW (hW:Below w.heap.size w W)=>(Sl.up ⟨A6,c6,rfl,JA,ha6⟩ hW hW.size:Sl jJ W W.heap.size (.slice A6 s.bg.length c6) s.bg))
 have hP':=ah (λW (hW:Below w.heap.size w W)=>hP.up hW hW.size)
 have hz':=ah hz;have jga:=ah jiC;clear hz jiC hP;go_enter func78,ntmps78
 go_wp2_with fail;generalize hW0:(w.alloc (.cells #[.slice Ab p.bQ.length cb,.slice As p.aP.length cs] 25)).alloc (.cells #[.slice A0 s.on.length c0,.slice A1 s.ak.length c1,.slice A2 s.aA.length c2,.slice A3 s.aF.length c3,.slice A4 s.gY.length c4,.slice A5 s.O.length c5,.slice A6 s.bg.length c6] 31)=W0 at hb0 lg hz0 ⊢
 have hz0':=ah hz0;clear hW0 hz0;have uZ:w.heap.size<W0.heap.size:=by omega
 have hK:=ah (λW (hW:Below W0.heap.size W0 W)=>And.intro (And.intro ((hW.cell (p:=⟨w.heap.size,0,none⟩) uZ).trans hz0'.O.1.1) ((hW.cell (p:=⟨w.heap.size,1,none⟩) uZ).trans hz0'.O.1.2))
  (And.intro ((hW.cell (p:=⟨w.heap.size+1,1,none⟩) lg).trans hz0'.O.2.1) (And.intro ((hW.cell (p:=⟨w.heap.size+1,2,none⟩) lg).trans hz0'.O.2.2.1) (And.intro ((hW.cell (p:=⟨w.heap.size+1,3,none⟩) lg).trans hz0'.O.2.2.2.1)
  (And.intro ((hW.cell (p:=⟨w.heap.size+1,4,none⟩) lg).trans hz0'.O.2.2.2.2.1) (And.intro ((hW.cell (p:=⟨w.heap.size+1,5,none⟩) lg).trans hz0'.O.2.2.2.2.2.1) ((hW.cell (p:=⟨w.heap.size+1,6,none⟩) lg).trans hz0'.O.2.2.2.2.2.2)))))))
 obtain⟨⟨y0,y1⟩,x1,x2,x3,x4,x5,x6⟩:=hK.O W0 (aj _ _);go_loopw[12,6] (λi _ wr=>∃k:Nat,k<=s.ak.length/\i=.int .i64 k/\(∀j,j<k->wW p (aU s.ak j)=true)/\Below W0.heap.size W0 wr) (λi _ _=>s.ak.length - (RowKit.intOf i).toNat)
 case atStart=>exact⟨0,aK _,rfl,λj hj=>by omega,aj _ _⟩
 case round=>
  clear y0 y1 x1 x2 x3 x4 x5 x6;obtain⟨k,hk,rfl,kE,hbw⟩:=hrel;have hall':=ah kE;clear kE;have hB:=hb0.trans (hbw.mono hb0.size);by_cases hlt:k<s.ak.length
  ·obtain⟨A',c',Jh,Gs,d0,d1,hsl⟩:=(hO.O wr hB).aC hlt;have hba:Below W0.heap.size W0 (wr.alloc (.cells #[.int .i64 (aU s.ak k).dW,.slice A' (aU s.ak k).aH.length c'] 42)):=hbw.alloc hbw.size _;have hwa:Below wr.heap.size wr (wr.alloc (.cells #[.int .i64 (aU s.ak k).dW,.slice A' (aU s.ak k).aH.length c'] 42)):=(aj _ _).alloc (au _) _;rcases jbl p (aU s.ak k)with⟨g1,hf⟩|⟨g1,g2,hf⟩|⟨g1,g2,g3,hf⟩|⟨g1,g2,g3,hf⟩
   ·have bK:=ah (KD hlt hf);clear hf;go_wp2_with fail;go_ret
    exact⟨fK (by rw[bK.O]),hb0.trans (hba.mono hb0.size)⟩
   ·have bK:=ah (KD hlt hf);clear hf;go_wp2_with fail;go_ret
    exact⟨fK (by rw[bK.O]),hb0.trans (hba.mono hb0.size)⟩
   ·have bK:=ah (KD hlt hf);have g3':=ah g3;clear hf g3;go_wp2_with fail;refine(xO _ _ (aU s.ak k).aH 132 #[.pointer (some ⟨w.heap.size,0,none⟩)] (λx=>!tV p x) P9 (hsl.grow hwa) (λj _ W hW=>by
     have hW2:=hba.trans (hW.mono hba.size);obtain⟨⟨a0,a1⟩,_⟩:=hK.O W hW2;exact ja2 p _ W w.heap.size hz'.O Ab As cb cs a0 a1 (aI uZ hW2.size) (hP'.O W (hb0.trans (hW2.mono hb0.size))))).mono ?_
    rintro e W2 ⟨rfl,hb2⟩;rw[g3'.O];have KA:=hba.trans (hb2.mono hba.size);go_wp2_with fail;go_ret
    exact⟨fK (by rw[bK.O]),hb0.trans (KA.mono hb0.size)⟩
   ·have g3':=ah g3;have hf':=ah hf;clear hf g3;go_wp2_with fail;refine(xO _ _ (aU s.ak k).aH 132 #[.pointer (some ⟨w.heap.size,0,none⟩)] (λx=>!tV p x) P9 (hsl.grow hwa) (λj _ W hW=>by
     have hW2:=hba.trans (hW.mono hba.size);obtain⟨⟨a0,a1⟩,_⟩:=hK.O W hW2;exact ja2 p _ W w.heap.size hz'.O Ab As cb cs a0 a1 (aI uZ hW2.size) (hP'.O W (hb0.trans (hW2.mono hb0.size))))).mono ?_
    rintro e W2 ⟨rfl,hb2⟩;rw[g3'.O];have KA:=hba.trans (hb2.mono hba.size);go_wp2_with fail;go_roundw
    case rel=>
     refine⟨k+1,by omega,by go_num,λj hj=>?_,KA⟩
     rcases aS.1 hj with h|rfl
     ·exact hall'.O j h
     ·exact hf'.O
    case measure=>simp[RowKit.intOf];omega
  ·obtain rfl:k=s.ak.length:=by omega
   have hrest:=ah (ja4 (D7 Gw hall'.O));obtain⟨⟨y0,y1⟩,x1,x2,x3,x4,x5,x6⟩:=hK.O wr hbw;have eP:w.heap.size+1<wr.heap.size:=aI lg hbw.size;have eU:w.heap.size<wr.heap.size:=by omega
   have hba:Below W0.heap.size W0 ((wr.alloc (.cells #[.func (.func 134) #[] #[.pointer (some ⟨w.heap.size+1,0,none⟩),.pointer (some ⟨w.heap.size,0,none⟩)]] 136)).alloc (.cells #[.func (.func 135) #[] #[.pointer (some ⟨w.heap.size,0,none⟩)]] 153)):=(hbw.alloc hbw.size _).alloc (by have:=hbw.size;simp;omega) _
   have hbc:wr.heap.size+1<((wr.alloc (.cells #[.func (.func 134) #[] #[.pointer (some ⟨w.heap.size+1,0,none⟩),.pointer (some ⟨w.heap.size,0,none⟩)]] 136)).alloc (.cells #[.func (.func 135) #[] #[.pointer (some ⟨w.heap.size,0,none⟩)]] 153)).heap.size:=by simp
   have hz9:((wr.alloc (.cells #[.func (.func 134) #[] #[.pointer (some ⟨w.heap.size+1,0,none⟩),.pointer (some ⟨w.heap.size,0,none⟩)]] 136)).alloc (.cells #[.func (.func 135) #[] #[.pointer (some ⟨w.heap.size,0,none⟩)]] 153)).cell? ⟨wr.heap.size,0,none⟩=some (.func (.func 134) #[] #[.pointer (some ⟨w.heap.size+1,0,none⟩),.pointer (some ⟨w.heap.size,0,none⟩)])/\
     ((wr.alloc (.cells #[.func (.func 134) #[] #[.pointer (some ⟨w.heap.size+1,0,none⟩),.pointer (some ⟨w.heap.size,0,none⟩)]] 136)).alloc (.cells #[.func (.func 135) #[] #[.pointer (some ⟨w.heap.size,0,none⟩)]] 153)).cell? ⟨wr.heap.size+1,0,none⟩=some (.func (.func 135) #[] #[.pointer (some ⟨w.heap.size,0,none⟩)]):=by simp
   go_wp2_with fail;generalize hW1:(wr.alloc (.cells #[.func (.func 134) #[] #[.pointer (some ⟨w.heap.size+1,0,none⟩),.pointer (some ⟨w.heap.size,0,none⟩)]] 136)).alloc (.cells #[.func (.func 135) #[] #[.pointer (some ⟨w.heap.size,0,none⟩)]] 153)=W1 at hba hbc hz9 ⊢
   have jqA:=ah hz9;clear hW1 hz9 y0 y1 x1 x2 x3 x4 x5 x6;have hB1:=hb0.trans (hba.mono hb0.size);refine(UW _ _ s.aA (hH.O W1 hB1)).mono ?_
   rintro e W2 ⟨rfl,hb2⟩;have jgi:=hba.trans (hb2.mono hba.size);have hB2:=hb0.trans (jgi.mono hb0.size);cases hok:iD s.aA
   ·have hc:lT s.aA=1:=by unfold lT;rw[hok];rfl
    have bK:=ah (show oQ p s=false by rw[hrest.O,hok];rfl)
    rw[hc];clear hc hok;go_wp2_with fail;go_ret
    exact⟨fK (by rw[bK.O]),hB2⟩
   ·have hc:lT s.aA=0:=jgB hok;have hn0:=ah (λk (hk:k<s.aA.length)=>(Hy hok hk).1.1)
    have hr1:=ah (hrest.O.trans (by rw[hok,lQ]))
    rw[hc];clear hc hok;obtain⟨⟨y0,y1⟩,x1,x2,x3,x4,x5,x6⟩:=hK.O W2 jgi;go_wp2_with fail;clear y0 y1 x1 x2 x3 x4 x5 x6;have jrw:wr.heap.size<W1.heap.size:=by omega
    refine(Tn _ _ s.aA 138 #[.pointer (some ⟨wr.heap.size,0,none⟩)] (λx=>!yQ p s x) Yb (hH.O W2 hB2) (λj hj W hW=>by
     have hW1:=hb2.trans (hW.mono hb2.size);have hW2:=jgi.trans (hW.mono jgi.size);obtain⟨⟨a0,a1⟩,e1,_⟩:=hK.O W hW2;have hBW:=hb0.trans (hW2.mono hb0.size);exact jhe p s _ W wr.heap.size (w.heap.size+1) w.heap.size A1 Ab c1 cb ((hW1.cell (p:=⟨wr.heap.size,0,none⟩) jrw).trans jqA.O.1) (aI jrw hW1.size) e1 a0 (aI lg hW2.size) (aI uZ hW2.size)
      (hO.O W hBW) (hn0.O j hj) (by omega) jga.O)).mono ?_
    rintro e W3 ⟨rfl,hb3⟩;have jgh:=jgi.trans (hb3.mono jgi.size);have hB3:=hb0.trans (jgh.mono hb0.size);cases hh:(s.aA.any λx=>!yQ p s x)
    ·have hr2:=ah (hr1.O.trans (by rw[hh,rX,lQ]))
     obtain⟨⟨y0,y1⟩,x1,x2,x3,x4,x5,x6⟩:=hK.O W3 jgh;clear hh;go_wp2_with fail;clear y0 y1 x1 x2 x3 x4 x5 x6;refine(Tm _ _ s.aF 140 #[.pointer (some ⟨wr.heap.size+1,0,none⟩)] (λx=>!sO p x) Ya (hM.O W3 hB3) (λj hj W hW=>by
      have Oe:=hb2.trans (hb3.mono hb2.size);have hW1:=Oe.trans (hW.mono Oe.size);have hW3:=jgh.trans (hW.mono jgh.size);obtain⟨⟨a0,a1⟩,e1,_⟩:=hK.O W hW3;have hBW:=hb0.trans (hW3.mono hb0.size);exact jhd p _ W (wr.heap.size+1) w.heap.size Ab As cb cs ((hW1.cell (p:=⟨wr.heap.size+1,0,none⟩) hbc).trans jqA.O.2) (aI hbc hW1.size) a0 a1 (aI uZ hW3.size) (hP'.O W hBW))).mono ?_
     rintro e W4 ⟨rfl,hb4⟩;have jle:=jgh.trans (hb4.mono jgh.size);have hB4:=hb0.trans (jle.mono hb0.size);cases hmv:(s.aF.any λx=>!sO p x)
     ·have hr3:=ah (hr2.O.trans (by rw[hmv,rX,lQ]))
      obtain⟨⟨y0,y1⟩,x1,x2,x3,x4,x5,x6⟩:=hK.O W4 jle;clear hmv;go_wp2_with fail;clear y0 y1 x1 x2 x3 x4 x5 x6;refine(jhb _ _ _ p s.gY 0 (hP'.O W4 hB4) (hI.O W4 hB4) hz'.O).mono ?_
      rintro e W5 ⟨rfl,hb5⟩;have jld:=jle.trans (hb5.mono jle.size);have P6:=hb0.trans (jld.mono hb0.size);cases hq1:uN p s.gY 0
      ·have bK:=ah (show oQ p s=false by rw[hr3.O,hq1];rfl)
       clear hq1;go_wp2_with fail;go_ret
       exact⟨fK (by rw[bK.O]),P6⟩
      ·have hr4:=ah (hr3.O.trans (by rw[hq1,lQ]))
       obtain⟨⟨y0,y1⟩,x1,x2,x3,x4,x5,x6⟩:=hK.O W5 jld;clear hq1;go_wp2_with fail;clear y0 y1 x1 x2 x3 x4 x5 x6;refine(jhb _ _ _ p s.O 0 (hP'.O W5 P6) (hU.O W5 P6) hz'.O).mono ?_
       rintro e W6 ⟨rfl,hb6⟩;have jry:=jld.trans (hb6.mono jld.size);have Sm:=hb0.trans (jry.mono hb0.size);cases hq2:uN p s.O 0
       ·have bK:=ah (show oQ p s=false by rw[hr4.O,hq2];rfl)
        clear hq2;go_wp2_with fail;go_ret
        exact⟨fK (by rw[bK.O]),Sm⟩
       ·have hr5:=ah (hr4.O.trans (by rw[hq2,lQ]))
        obtain⟨⟨y0,y1⟩,x1,x2,x3,x4,x5,x6⟩:=hK.O W6 jry;clear hq2;go_wp2_with fail;clear y0 y1 x1 x2 x3 x4 x5 x6;refine(jhb _ _ _ p s.bg (-1048576) (hP'.O W6 Sm) (hX.O W6 Sm) hz'.O).mono ?_
        rintro e W7 ⟨rfl,hb7⟩;have YW:=Sm.trans (hb7.mono Sm.size);go_wp2_with fail;go_ret
        exact⟨fK (by rw[hr5.O]),YW⟩
     ·have bK:=ah (show oQ p s=false by rw[hr2.O,hmv];rfl)
      clear hmv;go_wp2_with fail;go_ret
      exact⟨fK (by rw[bK.O]),hB4⟩
    ·have bK:=ah (show oQ p s=false by rw[hr1.O,hh];rfl)
     clear hh;go_wp2_with fail;go_ret
     exact⟨fK (by rw[bK.O]),hB3⟩
end Wh
