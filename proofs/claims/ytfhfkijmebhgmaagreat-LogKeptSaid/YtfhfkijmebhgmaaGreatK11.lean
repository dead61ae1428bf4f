/- Texts of the claim, joined. -/
import Derived.Laws.EntriesVeiled
import Derived.Test.YtfhfkijmebhgmaaGreatK10
set_option maxHeartbeats 20000000
set_option maxRecDepth 100000
namespace Wh
open Go Go.RowKit Go.Shelf Go.Proofs Tryz
attribute [local go_sem] aT
theorem KD{p:dA}{s:aJ}{o:Nat}(ho:o<s.ak.length)(h:wW p (aU s.ak o)=false):oQ p s=false:=by
 unfold oQ;rw[joD Gw ho h];simp
theorem jgB{l:List dZ}(h:iD l=true):lT l=0:=by unfold lT;rw[h];rfl
theorem jbl(p:dA)(o:Order):(o.dW<0/\wW p o=false)\/(0<=o.dW/\2<o.dW/\wW p o=false)\/(0<=o.dW/\o.dW<=2/\(o.aH.any λx=>!tV p x)=true/\wW p o=false)\/
  (0<=o.dW/\o.dW<=2/\(o.aH.any λx=>!tV p x)=false/\wW p o=true):=by
 have h:=@EM p o;rw[FP];cases hq:wW p o<;>cases hl:o.aH.all (tV p)<;>simp only[hq,hl,iE,vg,uG,mD,qm]at h<;>
  simp only[reduceCtorEq,wH,rX,mD,qm,ny,wY]<;>omega
theorem ja4{p:dA}{s:aJ}(h:s.ak.all (wW p)=true):oQ p s=(iD s.aA&&(!(s.aA.any λx=>!yQ p s x)&&(!(s.aF.any λx=>!sO p x)&&(uN p s.gY 0&&(uN p s.O 0&&uN p s.bg (-1048576)))))):=by
 unfold oQ;rw[h,FP,FP];simp[Bool.and_assoc]
theorem jkh(w:World)(v vs:Value)(p:dA)(s:aJ)(hp:mW w w.heap.size v p)(hv:lK w w.heap.size vs s)(hz:gQ p=0)(h4:s.ak.length<=4)(jiC:∀o,o<s.ak.length->(aU s.ak o).aH.length<=1000):
  Calls prog 78 #[v,vs] w λe w'=>e=.returned (.bool (oQ p s))/\Below w.heap.size w w':=by
 have hP:=hp;obtain⟨_,_,rfl,⟨Ab,cb,rfl,hlb,hb⟩,⟨As,cs,rfl,hls,hs⟩⟩:=hp;have hS:=hv;obtain⟨_,_,_,_,_,_,_,rfl,⟨A0,c0,vs0,rfl,hl0,hm0,ha0,hr0⟩,⟨A1,c1,vs1,rfl,hl1,hm1,ha1,hr1⟩,⟨A2,c2,rfl,hl2,ha2⟩,⟨A3,c3,rfl,hl3,ha3⟩,⟨A4,c4,rfl,hl4,ha4⟩,⟨A5,c5,rfl,hl5,ha5⟩,⟨A6,c6,rfl,JA,ha6⟩⟩:=hv;have hb0:Below w.heap.size w ((w.alloc (.cells #[.slice Ab p.bQ.length cb,.slice As p.aP.length cs] 25)).alloc (.cells #[.slice A0 s.on.length c0,.slice A1 s.ak.length c1,.slice A2 s.aA.length c2,.slice A3 s.aF.length c3,.slice A4 s.gY.length c4,.slice A5 s.O.length c5,.slice A6 s.bg.length c6] 31)):=((aj _ _).alloc (au _) _).alloc (by simp) _
 have lg:w.heap.size+1<((w.alloc (.cells #[.slice Ab p.bQ.length cb,.slice As p.aP.length cs] 25)).alloc (.cells #[.slice A0 s.on.length c0,.slice A1 s.ak.length c1,.slice A2 s.aA.length c2,.slice A3 s.aF.length c3,.slice A4 s.gY.length c4,.slice A5 s.O.length c5,.slice A6 s.bg.length c6] 31)).heap.size:=by simp
 have hz0:(((w.alloc (.cells #[.slice Ab p.bQ.length cb,.slice As p.aP.length cs] 25)).alloc (.cells #[.slice A0 s.on.length c0,.slice A1 s.ak.length c1,.slice A2 s.aA.length c2,.slice A3 s.aF.length c3,.slice A4 s.gY.length c4,.slice A5 s.O.length c5,.slice A6 s.bg.length c6] 31)).cell? ⟨w.heap.size,0,none⟩=some (.slice Ab p.bQ.length cb)/\((w.alloc (.cells #[.slice Ab p.bQ.length cb,.slice As p.aP.length cs] 25)).alloc (.cells #[.slice A0 s.on.length c0,.slice A1 s.ak.length c1,.slice A2 s.aA.length c2,.slice A3 s.aF.length c3,.slice A4 s.gY.length c4,.slice A5 s.O.length c5,.slice A6 s.bg.length c6] 31)).cell? ⟨w.heap.size,1,none⟩=some (.slice As p.aP.length cs))/\
   ((w.alloc (.cells #[.slice Ab p.bQ.length cb,.slice As p.aP.length cs] 25)).alloc (.cells #[.slice A0 s.on.length c0,.slice A1 s.ak.length c1,.slice A2 s.aA.length c2,.slice A3 s.aF.length c3,.slice A4 s.gY.length c4,.slice A5 s.O.length c5,.slice A6 s.bg.length c6] 31)).cell? ⟨w.heap.size+1,1,none⟩=some (.slice A1 s.ak.length c1)/\((w.alloc (.cells #[.slice Ab p.bQ.length cb,.slice As p.aP.length cs] 25)).alloc (.cells #[.slice A0 s.on.length c0,.slice A1 s.ak.length c1,.slice A2 s.aA.length c2,.slice A3 s.aF.length c3,.slice A4 s.gY.length c4,.slice A5 s.O.length c5,.slice A6 s.bg.length c6] 31)).cell? ⟨w.heap.size+1,2,none⟩=some (.slice A2 s.aA.length c2)/\((w.alloc (.cells #[.slice Ab p.bQ.length cb,.slice As p.aP.length cs] 25)).alloc (.cells #[.slice A0 s.on.length c0,.slice A1 s.ak.length c1,.slice A2 s.aA.length c2,.slice A3 s.aF.length c3,.slice A4 s.gY.length c4,.slice A5 s.O.length c5,.slice A6 s.bg.length c6] 31)).cell? ⟨w.heap.size+1,3,none⟩=some (.slice A3 s.aF.length c3)/\
   ((w.alloc (.cells #[.slice Ab p.bQ.length cb,.slice As p.aP.length cs] 25)).alloc (.cells #[.slice A0 s.on.length c0,.slice A1 s.ak.length c1,.slice A2 s.aA.length c2,.slice A3 s.aF.length c3,.slice A4 s.gY.length c4,.slice A5 s.O.length c5,.slice A6 s.bg.length c6] 31)).cell? ⟨w.heap.size+1,4,none⟩=some (.slice A4 s.gY.length c4)/\((w.alloc (.cells #[.slice Ab p.bQ.length cb,.slice As p.aP.length cs] 25)).alloc (.cells #[.slice A0 s.on.length c0,.slice A1 s.ak.length c1,.slice A2 s.aA.length c2,.slice A3 s.aF.length c3,.slice A4 s.gY.length c4,.slice A5 s.O.length c5,.slice A6 s.bg.length c6] 31)).cell? ⟨w.heap.size+1,5,none⟩=some (.slice A5 s.O.length c5)/\((w.alloc (.cells #[.slice Ab p.bQ.length cb,.slice As p.aP.length cs] 25)).alloc (.cells #[.slice A0 s.on.length c0,.slice A1 s.ak.length c1,.slice A2 s.aA.length c2,.slice A3 s.aF.length c3,.slice A4 s.gY.length c4,.slice A5 s.O.length c5,.slice A6 s.bg.length c6] 31)).cell? ⟨w.heap.size+1,6,none⟩=some (.slice A6 s.bg.length c6):=by simp
 have hO:=ah (λW (hW:Below w.heap.size w W)=>(nJ.up ⟨A1,c1,vs1,rfl,hl1,hm1,ha1,hr1⟩ hW hW.size:nJ W W.heap.size (.slice A1 s.ak.length c1) s.ak))
 have hH:=ah (λW (hW:Below w.heap.size w W)=>(Sl.up ⟨A2,c2,rfl,hl2,ha2⟩ hW hW.size:Sl ig W W.heap.size (.slice A2 s.aA.length c2) s.aA))
 have hM:=ah (λW (hW:Below w.heap.size w W)=>(Sl.up ⟨A3,c3,rfl,hl3,ha3⟩ hW hW.size:Sl nP W W.heap.size (.slice A3 s.aF.length c3) s.aF))
 have hI:=ah (λW (hW:Below w.heap.size w W)=>(Sl.up ⟨A4,c4,rfl,hl4,ha4⟩ hW hW.size:Sl jJ W W.heap.size (.slice A4 s.gY.length c4) s.gY))
 have hU:=ah (λW (hW:Below w.heap.size w W)=>(Sl.up ⟨A5,c5,rfl,hl5,ha5⟩ hW hW.size:Sl jJ W W.heap.size (.slice A5 s.O.length c5) s.O))
 have hX:=ah (λW (hW:Below w.heap.size w W)=>(Sl.up ⟨A6,c6,rfl,JA,ha6⟩ hW hW.size:Sl jJ W W.heap.size (.slice A6 s.bg.length c6) s.bg))
 have hP':=ah (λW (hW:Below w.heap.size w W)=>hP.up hW hW.size)
 have hz':=ah hz;have jga:=ah jiC;clear hz jiC hP;go_enter func78,ntmps78
 go_wp2_with fail;generalize hW0:(w.alloc (.cells #[.slice Ab p.bQ.length cb,.slice As p.aP.length cs] 25)).alloc (.cells #[.slice A0 s.on.length c0,.slice A1 s.ak.length c1,.slice A2 s.aA.length c2,.slice A3 s.aF.length c3,.slice A4 s.gY.length c4,.slice A5 s.O.length c5,.slice A6 s.bg.length c6] 31)=W0 at hb0 lg hz0 ⊢
 have hz0':=ah hz0;clear hW0 hz0;have uZ:w.heap.size<W0.heap.size:=by omega
 have hK:=ah (λW (hW:Below W0.heap.size W0 W)=>And.intro (And.intro ((hW.cell (p:=⟨w.heap.size,0,none⟩) uZ).trans hz0'.O.1.1) ((hW.cell (p:=⟨w.heap.size,1,none⟩) uZ).trans hz0'.O.1.2))
  (And.intro ((hW.cell (p:=⟨w.heap.size+1,1,none⟩) lg).trans hz0'.O.2.1) (And.intro ((hW.cell (p:=⟨w.heap.size+1,2,none⟩) lg).trans hz0'.O.2.2.1) (And.intro ((hW.cell (p:=⟨w.heap.size+1,3,none⟩) lg).trans hz0'.O.2.2.2.1)
  (And.intro ((hW.cell (p:=⟨w.heap.size+1,4,none⟩) lg).trans hz0'.O.2.2.2.2.1) (And.intro ((hW.cell (p:=⟨w.heap.size+1,5,none⟩) lg).trans hz0'.O.2.2.2.2.2.1) ((hW.cell (p:=⟨w.heap.size+1,6,none⟩) lg).trans hz0'.O.2.2.2.2.2.2)))))))
 obtain⟨⟨y0,y1⟩,x1,x2,x3,x4,x5,x6⟩:=hK.O W0 (aj _ _);go_loopw[12,6] (λi _ wr=>∃k:Nat,k<=s.ak.length/\i=.int .i64 k/\(∀j,j<k->wW p (aU s.ak j)=true)/\Below W0.heap.size W0 wr) (λi _ _=>s.ak.length - (RowKit.intOf i).toNat)
 case atStart=>exact⟨0,aK _,rfl,λj hj=>by omega,aj _ _⟩
 case round=>
  clear y0 y1 x1 x2 x3 x4 x5 x6;obtain⟨k,hk,rfl,kE,hbw⟩:=hrel;have hall':=ah kE;clear kE;have hB:=hb0.trans (hbw.mono hb0.size);by_cases hlt:k<s.ak.length
  ·obtain⟨A',c',Jh,Gs,d0,d1,hsl⟩:=(hO.O wr hB).aC hlt;have hba:Below W0.heap.size W0 (wr.alloc (.cells #[.int .i64 (aU s.ak k).dW,.slice A' (aU s.ak k).aH.length c'] 42)):=hbw.alloc hbw.size _;have hwa:Below wr.heap.size wr (wr.alloc (.cells #[.int .i64 (aU s.ak k).dW,.slice A' (aU s.ak k).aH.length c'] 42)):=(aj _ _).alloc (au _) _;rcases jbl p (aU s.ak k)with⟨g1,hf⟩|⟨g1,g2,hf⟩|⟨g1,g2,g3,hf⟩|⟨g1,g2,g3,hf⟩
   ·have bK:=ah (KD hlt hf);clear hf;go_wp2_with fail;go_ret
    exact⟨fK (by rw[bK.O]),hb0.trans (hba.mono hb0.size)⟩
   ·have bK:=ah (KD hlt hf);clear hf;go_wp2_with fail;go_ret
    exact⟨fK (by rw[bK.O]),hb0.trans (hba.mono hb0.size)⟩
   ·have bK:=ah (KD hlt hf);have g3':=ah g3;clear hf g3;go_wp2_with fail;refine(xO _ _ (aU s.ak k).aH 132 #[.pointer (some ⟨w.heap.size,0,none⟩)] (λx=>!tV p x) P9 (hsl.grow hwa) (λj _ W hW=>by
     have hW2:=hba.trans (hW.mono hba.size);obtain⟨⟨a0,a1⟩,_⟩:=hK.O W hW2;exact ja2 p _ W w.heap.size hz'.O Ab As cb cs a0 a1 (aI uZ hW2.size) (hP'.O W (hb0.trans (hW2.mono hb0.size))))).mono ?_
    rintro e W2 ⟨rfl,hb2⟩;rw[g3'.O];have KA:=hba.trans (hb2.mono hba.size);go_wp2_with fail;go_ret
    exact⟨fK (by rw[bK.O]),hb0.trans (KA.mono hb0.size)⟩
   ·have g3':=ah g3;have hf':=ah hf;clear hf g3;go_wp2_with fail;refine(xO _ _ (aU s.ak k).aH 132 #[.pointer (some ⟨w.heap.size,0,none⟩)] (λx=>!tV p x) P9 (hsl.grow hwa) (λj _ W hW=>by
     have hW2:=hba.trans (hW.mono hba.size);obtain⟨⟨a0,a1⟩,_⟩:=hK.O W hW2;exact ja2 p _ W w.heap.size hz'.O Ab As cb cs a0 a1 (aI uZ hW2.size) (hP'.O W (hb0.trans (hW2.mono hb0.size))))).mono ?_
    rintro e W2 ⟨rfl,hb2⟩;rw[g3'.O];have KA:=hba.trans (hb2.mono hba.size);go_wp2_with fail;go_roundw
    case rel=>
     refine⟨k+1,by omega,by go_num,λj hj=>?_,KA⟩
     rcases aS.1 hj with h|rfl
     ·exact hall'.O j h
     ·exact hf'.O
    case measure=>simp[RowKit.intOf];omega
  ·obtain rfl:k=s.ak.length:=by omega
   have hrest:=ah (ja4 (D7 Gw hall'.O));obtain⟨⟨y0,y1⟩,x1,x2,x3,x4,x5,x6⟩:=hK.O wr hbw;have eP:w.heap.size+1<wr.heap.size:=aI lg hbw.size;have eU:w.heap.size<wr.heap.size:=by omega
   have hba:Below W0.heap.size W0 ((wr.alloc (.cells #[.func (.func 134) #[] #[.pointer (some ⟨w.heap.size+1,0,none⟩),.pointer (some ⟨w.heap.size,0,none⟩)]] 136)).alloc (.cells #[.func (.func 135) #[] #[.pointer (some ⟨w.heap.size,0,none⟩)]] 153)):=(hbw.alloc hbw.size _).alloc (by have:=hbw.size;simp;omega) _
   have hbc:wr.heap.size+1<((wr.alloc (.cells #[.func (.func 134) #[] #[.pointer (some ⟨w.heap.size+1,0,none⟩),.pointer (some ⟨w.heap.size,0,none⟩)]] 136)).alloc (.cells #[.func (.func 135) #[] #[.pointer (some ⟨w.heap.size,0,none⟩)]] 153)).heap.size:=by simp
   have hz9:((wr.alloc (.cells #[.func (.func 134) #[] #[.pointer (some ⟨w.heap.size+1,0,none⟩),.pointer (some ⟨w.heap.size,0,none⟩)]] 136)).alloc (.cells #[.func (.func 135) #[] #[.pointer (some ⟨w.heap.size,0,none⟩)]] 153)).cell? ⟨wr.heap.size,0,none⟩=some (.func (.func 134) #[] #[.pointer (some ⟨w.heap.size+1,0,none⟩),.pointer (some ⟨w.heap.size,0,none⟩)])/\
     ((wr.alloc (.cells #[.func (.func 134) #[] #[.pointer (some ⟨w.heap.size+1,0,none⟩),.pointer (some ⟨w.heap.size,0,none⟩)]] 136)).alloc (.cells #[.func (.func 135) #[] #[.pointer (some ⟨w.heap.size,0,none⟩)]] 153)).cell? ⟨wr.heap.size+1,0,none⟩=some (.func (.func 135) #[] #[.pointer (some ⟨w.heap.size,0,none⟩)]):=by simp
   go_wp2_with fail;generalize hW1:(wr.alloc (.cells #[.func (.func 134) #[] #[.pointer (some ⟨w.heap.size+1,0,none⟩),.pointer (some ⟨w.heap.size,0,none⟩)]] 136)).alloc (.cells #[.func (.func 135) #[] #[.pointer (some ⟨w.heap.size,0,none⟩)]] 153)=W1 at hba hbc hz9 ⊢
   have jqA:=ah hz9;clear hW1 hz9 y0 y1 x1 x2 x3 x4 x5 x6;have hB1:=hb0.trans (hba.mono hb0.size);refine(UW _ _ s.aA (hH.O W1 hB1)).mono ?_
   rintro e W2 ⟨rfl,hb2⟩;have jgi:=hba.trans (hb2.mono hba.size);have hB2:=hb0.trans (jgi.mono hb0.size);cases hok:iD s.aA
   ·have hc:lT s.aA=1:=by unfold lT;rw[hok];rfl
    have bK:=ah (show oQ p s=false by rw[hrest.O,hok];rfl)
    rw[hc];clear hc hok;go_wp2_with fail;go_ret
    exact⟨fK (by rw[bK.O]),hB2⟩
   ·have hc:lT s.aA=0:=jgB hok;have hn0:=ah (λk (hk:k<s.aA.length)=>(Hy hok hk).1.1)
    have hr1:=ah (hrest.O.trans (by rw[hok,lQ]))
    rw[hc];clear hc hok;obtain⟨⟨y0,y1⟩,x1,x2,x3,x4,x5,x6⟩:=hK.O W2 jgi;go_wp2_with fail;clear y0 y1 x1 x2 x3 x4 x5 x6;have jrw:wr.heap.size<W1.heap.size:=by omega
    refine(Tn _ _ s.aA 138 #[.pointer (some ⟨wr.heap.size,0,none⟩)] (λx=>!yQ p s x) Yb (hH.O W2 hB2) (λj hj W hW=>by
     have hW1:=hb2.trans (hW.mono hb2.size);have hW2:=jgi.trans (hW.mono jgi.size);obtain⟨⟨a0,a1⟩,e1,_⟩:=hK.O W hW2;have hBW:=hb0.trans (hW2.mono hb0.size);exact jhe p s _ W wr.heap.size (w.heap.size+1) w.heap.size A1 Ab c1 cb ((hW1.cell (p:=⟨wr.heap.size,0,none⟩) jrw).trans jqA.O.1) (aI jrw hW1.size) e1 a0 (aI lg hW2.size) (aI uZ hW2.size)
      (hO.O W hBW) (hn0.O j hj) (by omega) jga.O)).mono ?_
    rintro e W3 ⟨rfl,hb3⟩;have jgh:=jgi.trans (hb3.mono jgi.size);have hB3:=hb0.trans (jgh.mono hb0.size);cases hh:(s.aA.any λx=>!yQ p s x)
    ·have hr2:=ah (hr1.O.trans (by rw[hh,rX,lQ]))
     obtain⟨⟨y0,y1⟩,x1,x2,x3,x4,x5,x6⟩:=hK.O W3 jgh;clear hh;go_wp2_with fail;clear y0 y1 x1 x2 x3 x4 x5 x6;refine(Tm _ _ s.aF 140 #[.pointer (some ⟨wr.heap.size+1,0,none⟩)] (λx=>!sO p x) Ya (hM.O W3 hB3) (λj hj W hW=>by
      have Oe:=hb2.trans (hb3.mono hb2.size);have hW1:=Oe.trans (hW.mono Oe.size);have hW3:=jgh.trans (hW.mono jgh.size);obtain⟨⟨a0,a1⟩,e1,_⟩:=hK.O W hW3;have hBW:=hb0.trans (hW3.mono hb0.size);exact jhd p _ W (wr.heap.size+1) w.heap.size Ab As cb cs ((hW1.cell (p:=⟨wr.heap.size+1,0,none⟩) hbc).trans jqA.O.2) (aI hbc hW1.size) a0 a1 (aI uZ hW3.size) (hP'.O W hBW))).mono ?_
     rintro e W4 ⟨rfl,hb4⟩;have jle:=jgh.trans (hb4.mono jgh.size);have hB4:=hb0.trans (jle.mono hb0.size);cases hmv:(s.aF.any λx=>!sO p x)
     ·have hr3:=ah (hr2.O.trans (by rw[hmv,rX,lQ]))
      obtain⟨⟨y0,y1⟩,x1,x2,x3,x4,x5,x6⟩:=hK.O W4 jle;clear hmv;go_wp2_with fail;clear y0 y1 x1 x2 x3 x4 x5 x6;refine(jhb _ _ _ p s.gY 0 (hP'.O W4 hB4) (hI.O W4 hB4) hz'.O).mono ?_
      rintro e W5 ⟨rfl,hb5⟩;have jld:=jle.trans (hb5.mono jle.size);have P6:=hb0.trans (jld.mono hb0.size);cases hq1:uN p s.gY 0
      ·have bK:=ah (show oQ p s=false by rw[hr3.O,hq1];rfl)
       clear hq1;go_wp2_with fail;go_ret
       exact⟨fK (by rw[bK.O]),P6⟩
      ·have hr4:=ah (hr3.O.trans (by rw[hq1,lQ]))
       obtain⟨⟨y0,y1⟩,x1,x2,x3,x4,x5,x6⟩:=hK.O W5 jld;clear hq1;go_wp2_with fail;clear y0 y1 x1 x2 x3 x4 x5 x6;refine(jhb _ _ _ p s.O 0 (hP'.O W5 P6) (hU.O W5 P6) hz'.O).mono ?_
       rintro e W6 ⟨rfl,hb6⟩;have jry:=jld.trans (hb6.mono jld.size);have Sm:=hb0.trans (jry.mono hb0.size);cases hq2:uN p s.O 0
       ·have bK:=ah (show oQ p s=false by rw[hr4.O,hq2];rfl)
        clear hq2;go_wp2_with fail;go_ret
        exact⟨fK (by rw[bK.O]),Sm⟩
       ·have hr5:=ah (hr4.O.trans (by rw[hq2,lQ]))
        obtain⟨⟨y0,y1⟩,x1,x2,x3,x4,x5,x6⟩:=hK.O W6 jry;clear hq2;go_wp2_with fail;clear y0 y1 x1 x2 x3 x4 x5 x6;refine(jhb _ _ _ p s.bg (-1048576) (hP'.O W6 Sm) (hX.O W6 Sm) hz'.O).mono ?_
        rintro e W7 ⟨rfl,hb7⟩;have YW:=Sm.trans (hb7.mono Sm.size);go_wp2_with fail;go_ret
        exact⟨fK (by rw[hr5.O]),YW⟩
     ·have bK:=ah (show oQ p s=false by rw[hr2.O,hmv];rfl)
      clear hmv;go_wp2_with fail;go_ret
      exact⟨fK (by rw[bK.O]),hB4⟩
    ·have bK:=ah (show oQ p s=false by rw[hr1.O,hh];rfl)
     clear hh;go_wp2_with fail;go_ret
     exact⟨fK (by rw[bK.O]),hB3⟩
end Wh
namespace Wh
open Go Go.RowKit Go.Shelf Go.Proofs Tryz
attribute [local go_sem] aT
theorem yX{p:dA}{s:aJ}(h:oQ p s=true->False):oQ p s=false:=by
 cases hh:oQ p s
 ·rfl
 ·exact(h hh).elim
theorem jbw(p:dA)(x:Line):(iK p x.dh=false/\tV p x=false)\/(iK p x.dh=true/\cZ x.iw 1 200=false/\tV p x=false)\/(iK p x.dh=true/\cZ x.iw 1 200=true/\cZ x.oh 0 x.iw=false/\tV p x=false)\/
  (iK p x.dh=true/\cZ x.iw 1 200=true/\cZ x.oh 0 x.iw=true/\cZ x.dP 0 x.iw=false/\tV p x=false)\/(iK p x.dh=true/\cZ x.iw 1 200=true/\cZ x.oh 0 x.iw=true/\cZ x.dP 0 x.iw=true/\tV p x=true):=by
 unfold tV;cases iK p x.dh<;>cases cZ x.iw 1 200<;>cases cZ x.oh 0 x.iw<;>cases cZ x.dP 0 x.iw<;>simp
theorem jbt(p:dA)(x:Move):(iK p x.dh=false/\sO p x=false)\/(iK p x.dh=true/\lV p x.src=false/\sO p x=false)\/(iK p x.dh=true/\lV p x.src=true/\lV p x.dst=false/\sO p x=false)\/
  (iK p x.dh=true/\lV p x.src=true/\lV p x.dst=true/\(x.src==x.dst)=true/\sO p x=false)\/(iK p x.dh=true/\lV p x.src=true/\lV p x.dst=true/\(x.src==x.dst)=false/\cZ x.n 1 200=false/\sO p x=false)\/
  (iK p x.dh=true/\lV p x.src=true/\lV p x.dst=true/\(x.src==x.dst)=false/\cZ x.n 1 200=true/\sO p x=true):=by
 unfold sO;cases iK p x.dh<;>cases lV p x.src<;>cases lV p x.dst<;>cases cZ x.n 1 200<;>by_cases h:x.src=x.dst<;>simp[h]
theorem jhV(p:dA){b:Int}(h0:0<=b):lV p b=decide (b<(p.bQ.length:Int)):=by
 rw[uj,yT,bD];omega
theorem jaZ(p:dA)(s:aJ):s.gY.length≠p.aP.length/\oQ p s=false\/s.gY.length=p.aP.length/\s.O.length≠p.aP.length/\oQ p s=false\/s.gY.length=p.aP.length/\s.O.length=p.aP.length/\s.bg.length≠p.aP.length/\oQ p s=false\/
  s.gY.length=p.aP.length/\s.O.length=p.aP.length/\s.bg.length=p.aP.length:=by
 have h:oQ p s=true->s.gY.length=p.aP.length/\s.O.length=p.aP.length/\s.bg.length=p.aP.length:=λh=>by
  have h:=dR.1 h;exact⟨(qU.1 h.2.2.2.2.1).1,(qU.1 h.2.2.2.2.2.1).1,(qU.1 h.2.2.2.2.2.2).1⟩
 cases hf:oQ p s
 ·simp only[mD];omega
 ·have:=h hf;omega
def P7(s:aJ)(g:Nat):Bool:=cZ (bI s.gY g) 0 1048576&&cZ (bI s.O g) 0 1048576&&cZ (bI s.bg g) (-1048576) 1048576
theorem jcg(s:aJ)(g:Nat):(cZ (bI s.gY g) 0 1048576=false/\P7 s g=false)\/(cZ (bI s.gY g) 0 1048576=true/\cZ (bI s.O g) 0 1048576=false/\P7 s g=false)\/(cZ (bI s.gY g) 0 1048576=true/\cZ (bI s.O g) 0 1048576=true/\cZ (bI s.bg g) (-1048576) 1048576=false/\P7 s g=false)\/
  (cZ (bI s.gY g) 0 1048576=true/\cZ (bI s.O g) 0 1048576=true/\cZ (bI s.bg g) (-1048576) 1048576=true/\P7 s g=true):=by
 unfold P7;cases cZ (bI s.gY g) 0 1048576<;>cases cZ (bI s.O g) 0 1048576<;>cases cZ (bI s.bg g) (-1048576) 1048576<;>simp
theorem jao{p:dA}{s:aJ}(h:oQ p s=true){g:Nat}(hg:g<p.aP.length):P7 s g=true:=by
 have h:=dR.1 h;obtain⟨i1,i2⟩:=qU.1 h.2.2.2.2.1;obtain⟨o1,o2⟩:=qU.1 h.2.2.2.2.2.1;obtain⟨f1,f2⟩:=qU.1 h.2.2.2.2.2.2;unfold P7;rw[bG,bG];exact⟨⟨uP 0 i2 (by omega),uP 0 o2 (by omega)⟩,uP 0 f2 (by omega)⟩
theorem jgp{p:dA}{s:aJ}(h1:s.ak.all (wW p)=true)(h2:iD s.aA=true)(h3:s.aA.all (yQ p s)=true)(h4:s.aF.all (sO p)=true)(h5:s.gY.length=p.aP.length/\s.O.length=p.aP.length/\s.bg.length=p.aP.length)
  (h6:∀g,g<p.aP.length->P7 s g=true):oQ p s=true:=by
 have h:∀g,g<p.aP.length->cZ (bI s.gY g) 0 1048576=true/\cZ (bI s.O g) 0 1048576=true/\cZ (bI s.bg g) (-1048576) 1048576=true:=λg hg=>by
  have:=h6 g hg;unfold P7 at this
  rw[bG,bG]at this
  exact⟨this.1.1,this.1.2,this.2⟩
 exact dR.2 ⟨h1,h2,h3,h4,qU.2 ⟨h5.1,D7 0 λg hg=>(h g (by omega)).1⟩,qU.2 ⟨h5.2.1,D7 0 λg hg=>(h g (by omega)).2.1⟩,qU.2 ⟨h5.2.2,D7 0 λg hg=>(h g (by omega)).2.2⟩⟩
theorem jkm(w:World)(v vs:Value)(p:dA)(s:aJ)(hp:mW w w.heap.size v p)(hv:lK w w.heap.size vs s)(hz:gQ p=0)(h4:s.ak.length<=4)(h8:s.aF.length<=8)(jiC:∀o,o<s.ak.length->(aU s.ak o).aH.length<=1000):
  Calls prog 39 #[v,vs] w λe w'=>e=.returned (.bool (oQ p s))/\Below w.heap.size w w':=by
 have hP:=hp;obtain⟨_,_,rfl,⟨Ab,cb,rfl,hlb,hb⟩,⟨As,cs,rfl,hls,hs⟩⟩:=hp;have hS:=hv;obtain⟨_,_,_,_,_,_,_,rfl,⟨A0,c0,vs0,rfl,hl0,hm0,ha0,hr0⟩,⟨A1,c1,vs1,rfl,hl1,hm1,ha1,hr1⟩,⟨A2,c2,rfl,hl2,ha2⟩,⟨A3,c3,rfl,hl3,ha3⟩,⟨A4,c4,rfl,hl4,ha4⟩,⟨A5,c5,rfl,hl5,ha5⟩,⟨A6,c6,rfl,JA,ha6⟩⟩:=hv;have hcnt:=pJ hz;have hb0:Below w.heap.size w ((w.alloc (.cells #[.slice Ab p.bQ.length cb,.slice As p.aP.length cs] 25)).alloc (.cells #[.slice A0 s.on.length c0,.slice A1 s.ak.length c1,.slice A2 s.aA.length c2,.slice A3 s.aF.length c3,.slice A4 s.gY.length c4,.slice A5 s.O.length c5,.slice A6 s.bg.length c6] 31)):=((aj _ _).alloc (au _) _).alloc (by simp) _
 have lg:w.heap.size+1<((w.alloc (.cells #[.slice Ab p.bQ.length cb,.slice As p.aP.length cs] 25)).alloc (.cells #[.slice A0 s.on.length c0,.slice A1 s.ak.length c1,.slice A2 s.aA.length c2,.slice A3 s.aF.length c3,.slice A4 s.gY.length c4,.slice A5 s.O.length c5,.slice A6 s.bg.length c6] 31)).heap.size:=by simp
 have hz0:(((w.alloc (.cells #[.slice Ab p.bQ.length cb,.slice As p.aP.length cs] 25)).alloc (.cells #[.slice A0 s.on.length c0,.slice A1 s.ak.length c1,.slice A2 s.aA.length c2,.slice A3 s.aF.length c3,.slice A4 s.gY.length c4,.slice A5 s.O.length c5,.slice A6 s.bg.length c6] 31)).cell? ⟨w.heap.size,0,none⟩=some (.slice Ab p.bQ.length cb)/\((w.alloc (.cells #[.slice Ab p.bQ.length cb,.slice As p.aP.length cs] 25)).alloc (.cells #[.slice A0 s.on.length c0,.slice A1 s.ak.length c1,.slice A2 s.aA.length c2,.slice A3 s.aF.length c3,.slice A4 s.gY.length c4,.slice A5 s.O.length c5,.slice A6 s.bg.length c6] 31)).cell? ⟨w.heap.size,1,none⟩=some (.slice As p.aP.length cs))/\
   ((w.alloc (.cells #[.slice Ab p.bQ.length cb,.slice As p.aP.length cs] 25)).alloc (.cells #[.slice A0 s.on.length c0,.slice A1 s.ak.length c1,.slice A2 s.aA.length c2,.slice A3 s.aF.length c3,.slice A4 s.gY.length c4,.slice A5 s.O.length c5,.slice A6 s.bg.length c6] 31)).cell? ⟨w.heap.size+1,1,none⟩=some (.slice A1 s.ak.length c1)/\((w.alloc (.cells #[.slice Ab p.bQ.length cb,.slice As p.aP.length cs] 25)).alloc (.cells #[.slice A0 s.on.length c0,.slice A1 s.ak.length c1,.slice A2 s.aA.length c2,.slice A3 s.aF.length c3,.slice A4 s.gY.length c4,.slice A5 s.O.length c5,.slice A6 s.bg.length c6] 31)).cell? ⟨w.heap.size+1,2,none⟩=some (.slice A2 s.aA.length c2)/\((w.alloc (.cells #[.slice Ab p.bQ.length cb,.slice As p.aP.length cs] 25)).alloc (.cells #[.slice A0 s.on.length c0,.slice A1 s.ak.length c1,.slice A2 s.aA.length c2,.slice A3 s.aF.length c3,.slice A4 s.gY.length c4,.slice A5 s.O.length c5,.slice A6 s.bg.length c6] 31)).cell? ⟨w.heap.size+1,3,none⟩=some (.slice A3 s.aF.length c3)/\
   ((w.alloc (.cells #[.slice Ab p.bQ.length cb,.slice As p.aP.length cs] 25)).alloc (.cells #[.slice A0 s.on.length c0,.slice A1 s.ak.length c1,.slice A2 s.aA.length c2,.slice A3 s.aF.length c3,.slice A4 s.gY.length c4,.slice A5 s.O.length c5,.slice A6 s.bg.length c6] 31)).cell? ⟨w.heap.size+1,4,none⟩=some (.slice A4 s.gY.length c4)/\((w.alloc (.cells #[.slice Ab p.bQ.length cb,.slice As p.aP.length cs] 25)).alloc (.cells #[.slice A0 s.on.length c0,.slice A1 s.ak.length c1,.slice A2 s.aA.length c2,.slice A3 s.aF.length c3,.slice A4 s.gY.length c4,.slice A5 s.O.length c5,.slice A6 s.bg.length c6] 31)).cell? ⟨w.heap.size+1,5,none⟩=some (.slice A5 s.O.length c5)/\((w.alloc (.cells #[.slice Ab p.bQ.length cb,.slice As p.aP.length cs] 25)).alloc (.cells #[.slice A0 s.on.length c0,.slice A1 s.ak.length c1,.slice A2 s.aA.length c2,.slice A3 s.aF.length c3,.slice A4 s.gY.length c4,.slice A5 s.O.length c5,.slice A6 s.bg.length c6] 31)).cell? ⟨w.heap.size+1,6,none⟩=some (.slice A6 s.bg.length c6):=by simp
 have hO:=ah (λW (hW:Below w.heap.size w W)=>(nJ.up ⟨A1,c1,vs1,rfl,hl1,hm1,ha1,hr1⟩ hW hW.size:nJ W W.heap.size (.slice A1 s.ak.length c1) s.ak))
 have hH:=ah (λW (hW:Below w.heap.size w W)=>(Sl.up ⟨A2,c2,rfl,hl2,ha2⟩ hW hW.size:Sl ig W W.heap.size (.slice A2 s.aA.length c2) s.aA))
 have hM:=ah (λW (hW:Below w.heap.size w W)=>(Sl.up ⟨A3,c3,rfl,hl3,ha3⟩ hW hW.size:Sl nP W W.heap.size (.slice A3 s.aF.length c3) s.aF))
 have hI:=ah (λW (hW:Below w.heap.size w W)=>(Sl.up ⟨A4,c4,rfl,hl4,ha4⟩ hW hW.size:Sl jJ W W.heap.size (.slice A4 s.gY.length c4) s.gY))
 have hU:=ah (λW (hW:Below w.heap.size w W)=>(Sl.up ⟨A5,c5,rfl,hl5,ha5⟩ hW hW.size:Sl jJ W W.heap.size (.slice A5 s.O.length c5) s.O))
 have hX:=ah (λW (hW:Below w.heap.size w W)=>(Sl.up ⟨A6,c6,rfl,JA,ha6⟩ hW hW.size:Sl jJ W W.heap.size (.slice A6 s.bg.length c6) s.bg))
 have hP':=ah (λW (hW:Below w.heap.size w W)=>hP.up hW hW.size)
 have jga:=ah jiC;clear hz jiC hP hS;go_enter func39,ntmps39
 go_wp2_with fail;generalize hW0:(w.alloc (.cells #[.slice Ab p.bQ.length cb,.slice As p.aP.length cs] 25)).alloc (.cells #[.slice A0 s.on.length c0,.slice A1 s.ak.length c1,.slice A2 s.aA.length c2,.slice A3 s.aF.length c3,.slice A4 s.gY.length c4,.slice A5 s.O.length c5,.slice A6 s.bg.length c6] 31)=W0 at hb0 lg hz0 ⊢
 have hz0':=ah hz0;clear hW0 hz0;have uZ:w.heap.size<W0.heap.size:=by omega
 have hK:=ah (λW (hW:Below W0.heap.size W0 W)=>And.intro (And.intro ((hW.cell (p:=⟨w.heap.size,0,none⟩) uZ).trans hz0'.O.1.1) ((hW.cell (p:=⟨w.heap.size,1,none⟩) uZ).trans hz0'.O.1.2))
  (And.intro ((hW.cell (p:=⟨w.heap.size+1,1,none⟩) lg).trans hz0'.O.2.1) (And.intro ((hW.cell (p:=⟨w.heap.size+1,2,none⟩) lg).trans hz0'.O.2.2.1) (And.intro ((hW.cell (p:=⟨w.heap.size+1,3,none⟩) lg).trans hz0'.O.2.2.2.1)
  (And.intro ((hW.cell (p:=⟨w.heap.size+1,4,none⟩) lg).trans hz0'.O.2.2.2.2.1) (And.intro ((hW.cell (p:=⟨w.heap.size+1,5,none⟩) lg).trans hz0'.O.2.2.2.2.2.1) ((hW.cell (p:=⟨w.heap.size+1,6,none⟩) lg).trans hz0'.O.2.2.2.2.2.2)))))))
 go_loopw[5,6,7] (λi _ _ wr=>∃k:Nat,k<=s.ak.length/\i=.int .i64 k/\(∀j,j<k->wW p (aU s.ak j)=true)/\Below W0.heap.size W0 wr) (λi _ _ _=>s.ak.length - (RowKit.intOf i).toNat)
 case atStart=>exact⟨0,aK _,rfl,λj hj=>by omega,aj _ _⟩
 case round=>
  obtain⟨k,hk,rfl,kE,hbw⟩:=hrel;have hall':=ah kE;clear kE;have hB:=hb0.trans (hbw.mono hb0.size);obtain⟨⟨y0,y1⟩,x1,x2,x3,x4,x5,x6⟩:=hK.O wr hbw;have eP:w.heap.size+1<wr.heap.size:=aI lg hbw.size;by_cases hlt:k<s.ak.length
  ·obtain⟨A',c',Jh,Gs,d0,d1,hsl⟩:=(hO.O wr hB).aC hlt;have hl33:=jga.O k hlt;cases hki:cZ (aU s.ak k).dW 0 2
   ·have bK:=ah (show oQ p s=false from yX λh=>by
     have:=uP Gw (dR.1 h).1 hlt;change wW p (aU s.ak k)=true at this
     unfold wW at this
     rw[hki]at this;cases this)
    go_wp2_with (go_at_call 38;refine(oH _ _ _ _).mono ?_;rintro e w' ⟨rfl,rfl⟩)
    go_ret
    exact⟨fK (by rw[bK.O]),hB⟩
   ·have jtD:=ah hki;go_wp2_with (go_at_call 38;refine(oH _ _ _ _).mono ?_;rintro e w' ⟨rfl,rfl⟩)
    go_loopw[6,7] (λi _ wr=>∃m:Nat,m<=(aU s.ak k).aH.length/\i=.int .i64 m/\(∀j,j<m->tV p (gK (aU s.ak k).aH j)=true)/\Below W0.heap.size W0 wr) (λi _ _=>(aU s.ak k).aH.length - (RowKit.intOf i).toNat)
    case atStart=>exact⟨0,aK _,rfl,λj hj=>by omega,hbw⟩
    case round=>
     clear hbw hB y0 y1 x1 x2 x3 x4 x5 x6 eP Jh Gs d0 d1 hsl;obtain⟨m,hm,rfl,zA,hbw⟩:=hrel;have pO:=ah zA;clear zA;have hB:=hb0.trans (hbw.mono hb0.size);obtain⟨⟨y0,y1⟩,x1,x2,x3,x4,x5,x6⟩:=hK.O wr hbw;have eP:w.heap.size+1<wr.heap.size:=aI lg hbw.size;have eU:w.heap.size<wr.heap.size:=by omega
     obtain⟨A',c',Jh,Gs,d0,d1,hsl⟩:=(hO.O wr hB).aC hlt;by_cases hml:m<(aU s.ak k).aH.length
     ·obtain⟨hok2,PD,e0,e1,e2,e3⟩:=hsl.at_.aG hml;have hba:Below W0.heap.size W0 (wr.alloc (.cells #[.int .i64 (gK (aU s.ak k).aH m).dh,.int .i64 (gK (aU s.ak k).aH m).iw,.int .i64 (gK (aU s.ak k).aH m).oh,.int .i64 (gK (aU s.ak k).aH m).dP] 44)):=hbw.alloc hbw.size _;have hBa:=hb0.trans (hba.mono hb0.size);rcases jbw p (gK (aU s.ak k).aH m)with⟨g1,hf⟩|⟨g1,g2,hf⟩|⟨g1,g2,g3,hf⟩|⟨g1,g2,g3,g4,hf⟩|⟨g1,g2,g3,g4,hf⟩
      rotate_left 4
      focus
       have hf':=ah hf;clear hf;go_wp2_with (first|(go_at_call 38;refine(oH _ _ _ _).mono ?_;rintro e w' ⟨rfl,rfl⟩)|(go_at_call 69;refine(Ej _ _ p _ (hP'.O _ hBa) (by omega)).mono ?_;rintro e W1 ⟨rfl,hb1⟩;obtain⟨hc1,hf1⟩:=xH hb1;have hz1:=hb1.size))
       go_roundw
       case rel=>
        refine⟨m+1,by omega,by go_num,λj hj=>?_,hba.trans (hb1.mono hba.size)⟩
        rcases aS.1 hj with h|rfl
        ·exact pO.O j h
        ·exact hf'.O
       case measure=>simp[RowKit.intOf];omega
      all_goals
       have bK:=ah (show oQ p s=false from yX λh=>by
        have h1:=uP Gw (dR.1 h).1 hlt;have h2:tV p (gK (aU s.ak k).aH m)=true:=uP Lc (EM.1 h1).2 hml;rw[hf]at h2;cases h2)
       clear hf;go_wp2_with (first|(go_at_call 38;refine(oH _ _ _ _).mono ?_;rintro e w' ⟨rfl,rfl⟩)|(go_at_call 69;refine(Ej _ _ p _ (hP'.O _ hBa) (by omega)).mono ?_;rintro e W1 ⟨rfl,hb1⟩;obtain⟨hc1,hf1⟩:=xH hb1;have hz1:=hb1.size))
       go_ret
       exact⟨fK (by rw[bK.O]),hBa.trans (hb1.mono hBa.size)⟩
     ·obtain rfl:m=(aU s.ak k).aH.length:=by omega
      go_wp2_with fail;go_roundw
      case rel=>
       refine⟨k+1,by omega,by go_num,λj hj=>?_,hbw⟩
       rcases aS.1 hj with h|rfl
       ·exact hall'.O j h
       ·exact EM.2 ⟨dV.1 jtD.O,D7 Lc pO.O⟩
      case measure=>simp[RowKit.intOf];omega
  ·obtain rfl:k=s.ak.length:=by omega
   have hord:=ah (D7 Gw hall'.O);clear hall';go_wp2_with fail;refine(jbd _ _ s.aA (hH.O wr hB)).mono ?_
   rintro e W1 ⟨rfl,hb1⟩;have hba:=hbw.trans (hb1.mono hbw.size);have hBa:=hb0.trans (hba.mono hb0.size);clear y0 y1 x1 x2 x3 x4 x5 x6 eP;obtain⟨⟨y0,y1⟩,x1,x2,x3,x4,x5,x6⟩:=hK.O W1 hba;cases hok:iD s.aA
   ·have hc:lT s.aA=1:=by unfold lT;rw[hok];rfl
    have bK:=ah (show oQ p s=false from yX λh=>by
     have:=(dR.1 h).2.1;rw[hok]at this;cases this)
    rw[hc];clear hc hok;go_wp2_with fail;go_ret
    exact⟨fK (by rw[bK.O]),hBa⟩
   have hc:lT s.aA=0:=by unfold lT;rw[hok];rfl
   have SN:=su hok;have hok':=ah hok;rw[hc];clear hc hok;go_wp2_with fail;go_loopw[8,9] (λi _ wr=>∃m:Nat,m<=s.aA.length/\i=.int .i64 m/\(∀j,j<m->yQ p s (hold s.aA j)=true)/\Below W0.heap.size W0 wr) (λi _ _=>s.aA.length - (RowKit.intOf i).toNat)
   case atStart=>exact⟨0,aK _,rfl,λj hj=>by omega,hba⟩
   case round=>
    clear hbw hB y0 y1 x1 x2 x3 x4 x5 x6 hb1 hba hBa;obtain⟨m,hm,rfl,zA,hbw⟩:=hrel;have pO:=ah zA;clear zA;have hB:=hb0.trans (hbw.mono hb0.size);obtain⟨⟨y0,y1⟩,x1,x2,x3,x4,x5,x6⟩:=hK.O wr hbw;have eP:w.heap.size+1<wr.heap.size:=aI lg hbw.size;have eU:w.heap.size<wr.heap.size:=by omega
    by_cases hml:m<s.aA.length
    ·obtain⟨hok2,PD,e0,e1,e2,e3⟩:=(hH.O wr hB).at_.hold hml;have xB:=Hy hok'.O hml;have hba:Below W0.heap.size W0 (wr.alloc (.cells #[.int .i64 (hold s.aA m).aC,.int .i64 (hold s.aA m).aG,.int .i64 (hold s.aA m).bin,.int .i64 (hold s.aA m).n] 46)):=hbw.alloc hbw.size _;have hBa:=hb0.trans (hba.mono hb0.size);have hlW:wr.heap.size<(wr.alloc (.cells #[.int .i64 (hold s.aA m).aC,.int .i64 (hold s.aA m).aG,.int .i64 (hold s.aA m).bin,.int .i64 (hold s.aA m).n] 46)).heap.size:=by simp
     have q0:=λo d os=>bY (w:=wr.alloc (.cells #[.int .i64 (hold s.aA m).aC,.int .i64 (hold s.aA m).aG,.int .i64 (hold s.aA m).bin,.int .i64 (hold s.aA m).n] 46)) (b:=w.heap.size) (by simp;omega) o d os
     have q1:=λo d os=>bY (w:=wr.alloc (.cells #[.int .i64 (hold s.aA m).aC,.int .i64 (hold s.aA m).aG,.int .i64 (hold s.aA m).bin,.int .i64 (hold s.aA m).n] 46)) (b:=w.heap.size+1) (by simp;omega) o d os
     have q2:=λo d os=>bY (w:=wr.alloc (.cells #[.int .i64 (hold s.aA m).aC,.int .i64 (hold s.aA m).aG,.int .i64 (hold s.aA m).bin,.int .i64 (hold s.aA m).n] 46)) (b:=wr.heap.size) hlW o d os
     unfold sD at xB
     obtain⟨⟨k1,k2⟩,⟨k3,k4⟩,⟨k5,k6⟩⟩:=xB;have jb5:=jhV p k5;have hP2:=ah (λd os=>hP'.O _ (hBa.trans ((kW (wr.alloc (.cells #[.int .i64 (hold s.aA m).aC,.int .i64 (hold s.aA m).aG,.int .i64 (hold s.aA m).bin,.int .i64 (hold s.aA m).n] 46)) d os).mono hBa.size)))
     rcases RD p s (hold s.aA m)with⟨g1,hf⟩|⟨g1,g2,hf⟩|⟨g1,g2,g3,hf⟩|⟨g1,g2,g3,hf⟩
     ·have d1:decide ((hold s.aA m).aC<(s.ak.length:Int))=false:=by simpa using g1
      have d1':decide ((s.ak.length:Int)<=(hold s.aA m).aC)=true:=by simpa using g1
      have bK:=ah (show oQ p s=false from yX λh=>by
       have h2:yQ p s (hold s.aA m)=true:=uP Xb (dR.1 h).2.2.1 hml;rw[hf]at h2;cases h2)
      clear hf jb5;go_wp2_with fail;refine dG (by kernel_rfl) (by kernel_rfl) ?_
      repeat(go_big_quiet_step ((go_at_call 68;refine gI (Ey _ _ p _ (hP2.O _ _) (by omega)))))
      refine wpQuiet_nil ?_
      intro W2 hw';have hb2:=dD hw';clear hw';go_wp2_with fail;go_ret
      exact⟨fK (by rw[bK.O]),hBa.trans (hb2.mono hBa.size)⟩
     ·have hol:(hold s.aA m).aC.toNat<s.ak.length:=by omega
      obtain⟨A',c',Jh,Gs,d0,d1,hsl⟩:=(hO.O wr hB).aC hol;have hll:=jga.O _ hol;have q3:=λo d os=>bY (w:=wr.alloc (.cells #[.int .i64 (hold s.aA m).aC,.int .i64 (hold s.aA m).aG,.int .i64 (hold s.aA m).bin,.int .i64 (hold s.aA m).n] 46)) (b:=jd A1) (by simp;omega) o d os
      unfold aJ.aC at g2
      have d1:decide ((hold s.aA m).aC<(s.ak.length:Int))=true:=by simpa using g1
      have d1':decide ((s.ak.length:Int)<=(hold s.aA m).aC)=false:=by simpa using g1
      have d2:decide ((hold s.aA m).aG<((aU s.ak (hold s.aA m).aC.toNat).aH.length:Int))=false:=by simpa using g2
      have d2':decide (((aU s.ak (hold s.aA m).aC.toNat).aH.length:Int)<=(hold s.aA m).aG)=true:=by simpa using g2
      have bK:=ah (show oQ p s=false from yX λh=>by
       have h2:yQ p s (hold s.aA m)=true:=uP Xb (dR.1 h).2.2.1 hml;rw[hf]at h2;cases h2)
      clear hf jb5;go_wp2_with fail;refine dG (by kernel_rfl) (by kernel_rfl) ?_
      repeat(go_big_quiet_step ((go_at_call 68;refine gI (Ey _ _ p _ (hP2.O _ _) (by omega)))))
      refine wpQuiet_nil ?_
      intro W2 hw';have hb2:=dD hw';clear hw';go_wp2_with fail;go_ret
      exact⟨fK (by rw[bK.O]),hBa.trans (hb2.mono hBa.size)⟩
     ·have hol:(hold s.aA m).aC.toNat<s.ak.length:=by omega
      obtain⟨A',c',Jh,Gs,d0,d1,hsl⟩:=(hO.O wr hB).aC hol;have hll:=jga.O _ hol;have q3:=λo d os=>bY (w:=wr.alloc (.cells #[.int .i64 (hold s.aA m).aC,.int .i64 (hold s.aA m).aG,.int .i64 (hold s.aA m).bin,.int .i64 (hold s.aA m).n] 46)) (b:=jd A1) (by simp;omega) o d os
      unfold aJ.aC at g2
      have d1:decide ((hold s.aA m).aC<(s.ak.length:Int))=true:=by simpa using g1
      have d1':decide ((s.ak.length:Int)<=(hold s.aA m).aC)=false:=by simpa using g1
      have d2:decide ((hold s.aA m).aG<((aU s.ak (hold s.aA m).aC.toNat).aH.length:Int))=true:=by simpa using g2
      have d2':decide (((aU s.ak (hold s.aA m).aC.toNat).aH.length:Int)<=(hold s.aA m).aG)=false:=by simpa using g2
      have jru:lV p (hold s.aA m).bin=false:=by rw[jb5];simpa using g3
      have bK:=ah (show oQ p s=false from yX λh=>by
       have h2:yQ p s (hold s.aA m)=true:=uP Xb (dR.1 h).2.2.1 hml;rw[hf]at h2;cases h2)
      clear hf jb5;go_wp2_with fail;refine dG (by kernel_rfl) (by kernel_rfl) ?_
      repeat(go_big_quiet_step ((go_at_call 68;refine gI (Ey _ _ p _ (hP2.O _ _) (by omega)))))
      refine wpQuiet_nil ?_
      intro W2 hw';have hb2:=dD hw';clear hw';go_wp2_with fail;go_ret
      exact⟨fK (by rw[bK.O]),hBa.trans (hb2.mono hBa.size)⟩
     ·have hol:(hold s.aA m).aC.toNat<s.ak.length:=by omega
      obtain⟨A',c',Jh,Gs,d0,d1,hsl⟩:=(hO.O wr hB).aC hol;have hll:=jga.O _ hol;have q3:=λo d os=>bY (w:=wr.alloc (.cells #[.int .i64 (hold s.aA m).aC,.int .i64 (hold s.aA m).aG,.int .i64 (hold s.aA m).bin,.int .i64 (hold s.aA m).n] 46)) (b:=jd A1) (by simp;omega) o d os
      unfold aJ.aC at g2
      have d1:decide ((hold s.aA m).aC<(s.ak.length:Int))=true:=by simpa using g1
      have d1':decide ((s.ak.length:Int)<=(hold s.aA m).aC)=false:=by simpa using g1
      have d2:decide ((hold s.aA m).aG<((aU s.ak (hold s.aA m).aC.toNat).aH.length:Int))=true:=by simpa using g2
      have d2':decide (((aU s.ak (hold s.aA m).aC.toNat).aH.length:Int)<=(hold s.aA m).aG)=false:=by simpa using g2
      have jru:lV p (hold s.aA m).bin=true:=by rw[jb5];simpa using g3
      have hf':=ah hf;clear hf jb5;go_wp2_with fail;refine dG (by kernel_rfl) (by kernel_rfl) ?_
      repeat(go_big_quiet_step ((go_at_call 68;refine gI (Ey _ _ p _ (hP2.O _ _) (by omega)))))
      refine wpQuiet_nil ?_
      intro W2 hw';have hb2:=dD hw';clear hw';go_wp2_with fail;go_roundw
      case rel=>
       refine⟨m+1,by omega,by go_num,λj hj=>?_,hba.trans (hb2.mono hba.size)⟩
       rcases aS.1 hj with h|rfl
       ·exact pO.O j h
       ·exact hf'.O
      case measure=>simp[RowKit.intOf];omega
    ·obtain rfl:m=s.aA.length:=by omega
     have jtI:=ah (D7 Xb pO.O);clear pO;go_wp2_with fail;go_loopw[10,11] (λi _ wr=>∃m:Nat,m<=s.aF.length/\i=.int .i64 m/\(∀j,j<m->sO p (bH s.aF j)=true)/\Below W0.heap.size W0 wr) (λi _ _=>s.aF.length - (RowKit.intOf i).toNat)
     case atStart=>exact⟨0,aK _,rfl,λj hj=>by omega,hbw⟩
     case round=>
      clear hbw hB y0 y1 x1 x2 x3 x4 x5 x6 eP eU;obtain⟨m,hm,rfl,zA,hbw⟩:=hrel;have pO:=ah zA;clear zA;have hB:=hb0.trans (hbw.mono hb0.size);obtain⟨⟨y0,y1⟩,x1,x2,x3,x4,x5,x6⟩:=hK.O wr hbw;have eP:w.heap.size+1<wr.heap.size:=aI lg hbw.size;have eU:w.heap.size<wr.heap.size:=by omega
      by_cases hml:m<s.aF.length
      ·obtain⟨hok2,PD,e0,e1,e2,e3⟩:=(hM.O wr hB).at_.move hml;have hba:Below W0.heap.size W0 (wr.alloc (.cells #[.int .i64 (bH s.aF m).dh,.int .i64 (bH s.aF m).src,.int .i64 (bH s.aF m).dst,.int .i64 (bH s.aF m).n] 48)):=hbw.alloc hbw.size _;have hBa:=hb0.trans (hba.mono hb0.size);have hlW:wr.heap.size<(wr.alloc (.cells #[.int .i64 (bH s.aF m).dh,.int .i64 (bH s.aF m).src,.int .i64 (bH s.aF m).dst,.int .i64 (bH s.aF m).n] 48)).heap.size:=by simp
       rcases jbt p (bH s.aF m)with⟨g1,hf⟩|⟨g1,g2,hf⟩|⟨g1,g2,g3,hf⟩|⟨g1,g2,g3,g4,hf⟩|⟨g1,g2,g3,g4,g5,hf⟩|⟨g1,g2,g3,g4,g5,hf⟩
       rotate_left 5
       focus
        have hf':=ah hf;clear hf;go_wp2_with fail;refine(Ej _ _ p _ (hP'.O _ hBa) (by omega)).mono ?_
        rintro e W1 ⟨rfl,hb1⟩;obtain⟨uc1,uf1⟩:=xH hb1;have hs1:=hb1.size;have ht1:w.heap.size<W1.heap.size:=by omega
        have ht1':wr.heap.size<W1.heap.size:=by omega
        have hBb:=hBa.trans (hb1.mono hBa.size);go_wp2_with fail;refine(Ey _ _ p _ (hP'.O _ hBb) (by omega)).mono ?_
        rintro e W2 ⟨rfl,hb2⟩;obtain⟨uc2,uf2⟩:=xH hb2;have hs2:=hb2.size;have ht2:w.heap.size<W2.heap.size:=by omega
        have jkK:wr.heap.size<W2.heap.size:=by omega
        have hBc:=hBb.trans (hb2.mono hBb.size);go_wp2_with fail;refine(Ey _ _ p _ (hP'.O _ hBc) (by omega)).mono ?_
        rintro e W3 ⟨rfl,hb3⟩;obtain⟨uc3,uf3⟩:=xH hb3;have hs3:=hb3.size;have ht3:w.heap.size<W3.heap.size:=by omega
        have jia:wr.heap.size<W3.heap.size:=by omega
        go_wp2_with (go_at_call 38;refine(oH _ _ _ _).mono ?_;rintro e w' ⟨rfl,rfl⟩)
        go_roundw
        case rel=>
         refine⟨m+1,by omega,by go_num,λj hj=>?_,(hba.trans (hb1.mono hba.size)).trans ((hb2.trans (hb3.mono hb2.size)).mono (hba.trans (hb1.mono hba.size)).size)⟩
         rcases aS.1 hj with h|rfl
         ·exact pO.O j h
         ·exact hf'.O
        case measure=>simp[RowKit.intOf];omega
       ·have bK:=ah (show oQ p s=false from yX λh=>by
         have h2:sO p (bH s.aF m)=true:=uP Ox (dR.1 h).2.2.2.1 hml;rw[hf]at h2;cases h2)
        clear hf;go_wp2_with fail;refine(Ej _ _ p _ (hP'.O _ hBa) (by omega)).mono ?_
        rintro e W1 ⟨rfl,hb1⟩;obtain⟨uc1,uf1⟩:=xH hb1;have hs1:=hb1.size;have ht1:w.heap.size<W1.heap.size:=by omega
        have ht1':wr.heap.size<W1.heap.size:=by omega
        have hBb:=hBa.trans (hb1.mono hBa.size);go_wp2_with fail;go_ret
        exact⟨fK (by rw[bK.O]),hBb⟩
       ·have bK:=ah (show oQ p s=false from yX λh=>by
         have h2:sO p (bH s.aF m)=true:=uP Ox (dR.1 h).2.2.2.1 hml;rw[hf]at h2;cases h2)
        clear hf;go_wp2_with fail;refine(Ej _ _ p _ (hP'.O _ hBa) (by omega)).mono ?_
        rintro e W1 ⟨rfl,hb1⟩;obtain⟨uc1,uf1⟩:=xH hb1;have hs1:=hb1.size;have ht1:w.heap.size<W1.heap.size:=by omega
        have ht1':wr.heap.size<W1.heap.size:=by omega
        have hBb:=hBa.trans (hb1.mono hBa.size);go_wp2_with fail;refine(Ey _ _ p _ (hP'.O _ hBb) (by omega)).mono ?_
        rintro e W2 ⟨rfl,hb2⟩;obtain⟨uc2,uf2⟩:=xH hb2;have hs2:=hb2.size;have ht2:w.heap.size<W2.heap.size:=by omega
        have jkK:wr.heap.size<W2.heap.size:=by omega
        have hBc:=hBb.trans (hb2.mono hBb.size);go_wp2_with fail;go_ret
        exact⟨fK (by rw[bK.O]),hBc⟩
       ·have bK:=ah (show oQ p s=false from yX λh=>by
         have h2:sO p (bH s.aF m)=true:=uP Ox (dR.1 h).2.2.2.1 hml;rw[hf]at h2;cases h2)
        clear hf;go_wp2_with fail;refine(Ej _ _ p _ (hP'.O _ hBa) (by omega)).mono ?_
        rintro e W1 ⟨rfl,hb1⟩;obtain⟨uc1,uf1⟩:=xH hb1;have hs1:=hb1.size;have ht1:w.heap.size<W1.heap.size:=by omega
        have ht1':wr.heap.size<W1.heap.size:=by omega
        have hBb:=hBa.trans (hb1.mono hBa.size);go_wp2_with fail;refine(Ey _ _ p _ (hP'.O _ hBb) (by omega)).mono ?_
        rintro e W2 ⟨rfl,hb2⟩;obtain⟨uc2,uf2⟩:=xH hb2;have hs2:=hb2.size;have ht2:w.heap.size<W2.heap.size:=by omega
        have jkK:wr.heap.size<W2.heap.size:=by omega
        have hBc:=hBb.trans (hb2.mono hBb.size);go_wp2_with fail;refine(Ey _ _ p _ (hP'.O _ hBc) (by omega)).mono ?_
        rintro e W3 ⟨rfl,hb3⟩;obtain⟨uc3,uf3⟩:=xH hb3;have hs3:=hb3.size;have ht3:w.heap.size<W3.heap.size:=by omega
        have jia:wr.heap.size<W3.heap.size:=by omega
        have hBd:=hBc.trans (hb3.mono hBc.size);go_wp2_with fail;go_ret
        exact⟨fK (by rw[bK.O]),hBd⟩
       ·have bK:=ah (show oQ p s=false from yX λh=>by
         have h2:sO p (bH s.aF m)=true:=uP Ox (dR.1 h).2.2.2.1 hml;rw[hf]at h2;cases h2)
        clear hf;go_wp2_with fail;refine(Ej _ _ p _ (hP'.O _ hBa) (by omega)).mono ?_
        rintro e W1 ⟨rfl,hb1⟩;obtain⟨uc1,uf1⟩:=xH hb1;have hs1:=hb1.size;have ht1:w.heap.size<W1.heap.size:=by omega
        have ht1':wr.heap.size<W1.heap.size:=by omega
        have hBb:=hBa.trans (hb1.mono hBa.size);go_wp2_with fail;refine(Ey _ _ p _ (hP'.O _ hBb) (by omega)).mono ?_
        rintro e W2 ⟨rfl,hb2⟩;obtain⟨uc2,uf2⟩:=xH hb2;have hs2:=hb2.size;have ht2:w.heap.size<W2.heap.size:=by omega
        have jkK:wr.heap.size<W2.heap.size:=by omega
        have hBc:=hBb.trans (hb2.mono hBb.size);go_wp2_with fail;refine(Ey _ _ p _ (hP'.O _ hBc) (by omega)).mono ?_
        rintro e W3 ⟨rfl,hb3⟩;obtain⟨uc3,uf3⟩:=xH hb3;have hs3:=hb3.size;have ht3:w.heap.size<W3.heap.size:=by omega
        have jia:wr.heap.size<W3.heap.size:=by omega
        have hBd:=hBc.trans (hb3.mono hBc.size);go_wp2_with fail;go_ret
        exact⟨fK (by rw[bK.O]),hBd⟩
       ·have bK:=ah (show oQ p s=false from yX λh=>by
         have h2:sO p (bH s.aF m)=true:=uP Ox (dR.1 h).2.2.2.1 hml;rw[hf]at h2;cases h2)
        clear hf;go_wp2_with fail;refine(Ej _ _ p _ (hP'.O _ hBa) (by omega)).mono ?_
        rintro e W1 ⟨rfl,hb1⟩;obtain⟨uc1,uf1⟩:=xH hb1;have hs1:=hb1.size;have ht1:w.heap.size<W1.heap.size:=by omega
        have ht1':wr.heap.size<W1.heap.size:=by omega
        have hBb:=hBa.trans (hb1.mono hBa.size);go_wp2_with fail;refine(Ey _ _ p _ (hP'.O _ hBb) (by omega)).mono ?_
        rintro e W2 ⟨rfl,hb2⟩;obtain⟨uc2,uf2⟩:=xH hb2;have hs2:=hb2.size;have ht2:w.heap.size<W2.heap.size:=by omega
        have jkK:wr.heap.size<W2.heap.size:=by omega
        have hBc:=hBb.trans (hb2.mono hBb.size);go_wp2_with fail;refine(Ey _ _ p _ (hP'.O _ hBc) (by omega)).mono ?_
        rintro e W3 ⟨rfl,hb3⟩;obtain⟨uc3,uf3⟩:=xH hb3;have hs3:=hb3.size;have ht3:w.heap.size<W3.heap.size:=by omega
        have jia:wr.heap.size<W3.heap.size:=by omega
        have hBd:=hBc.trans (hb3.mono hBc.size);go_wp2_with (go_at_call 38;refine(oH _ _ _ _).mono ?_;rintro e w' ⟨rfl,rfl⟩)
        go_ret
        exact⟨fK (by rw[bK.O]),hBd⟩
      ·obtain rfl:m=s.aF.length:=by omega
       have hmv:=ah (D7 Ox pO.O);clear pO;obtain⟨aA0,aA1⟩:=And.intro hlb hls;rcases jaZ p s with⟨g1,hf⟩|⟨g1,g2,hf⟩|⟨g1,g2,g3,hf⟩|⟨g1,g2,g3⟩
       ·have hn1:((s.gY.length:Int)==(p.aP.length:Int))=false:=by simp;omega
        have hm1:((s.gY.length:Int)!=(p.aP.length:Int))=true:=by simp;omega
        have bK:=ah hf;clear hf g1;go_wp2_with fail;go_ret
        exact⟨fK (by rw[bK.O]),hB⟩
       ·have hn1:((s.gY.length:Int)==(p.aP.length:Int))=true:=by simp;omega
        have hm1:((s.gY.length:Int)!=(p.aP.length:Int))=false:=by simp;omega
        have hn2:((s.O.length:Int)==(p.aP.length:Int))=false:=by simp;omega
        have hm2:((s.O.length:Int)!=(p.aP.length:Int))=true:=by simp;omega
        have bK:=ah hf;clear hf g1 g2;go_wp2_with fail;go_ret
        exact⟨fK (by rw[bK.O]),hB⟩
       ·have hn1:((s.gY.length:Int)==(p.aP.length:Int))=true:=by simp;omega
        have hm1:((s.gY.length:Int)!=(p.aP.length:Int))=false:=by simp;omega
        have hn2:((s.O.length:Int)==(p.aP.length:Int))=true:=by simp;omega
        have hm2:((s.O.length:Int)!=(p.aP.length:Int))=false:=by simp;omega
        have hn3:((s.bg.length:Int)==(p.aP.length:Int))=false:=by simp;omega
        have hm3:((s.bg.length:Int)!=(p.aP.length:Int))=true:=by simp;omega
        have bK:=ah hf;clear hf g1 g2 g3;go_wp2_with fail;go_ret
        exact⟨fK (by rw[bK.O]),hB⟩
       ·have hn1:((s.gY.length:Int)==(p.aP.length:Int))=true:=by simp;omega
        have hm1:((s.gY.length:Int)!=(p.aP.length:Int))=false:=by simp;omega
        have hn2:((s.O.length:Int)==(p.aP.length:Int))=true:=by simp;omega
        have hm2:((s.O.length:Int)!=(p.aP.length:Int))=false:=by simp;omega
        have hn3:((s.bg.length:Int)==(p.aP.length:Int))=true:=by simp;omega
        have hm3:((s.bg.length:Int)!=(p.aP.length:Int))=false:=by simp;omega
        have hg1:=ah g1;have hg2:=ah g2;have hg3:=ah g3;clear g1 g2 g3;go_wp2_with fail;clear hn1 hn2 hn3 hm1 hm2 hm3;go_loopw[12] (λi wr=>∃m:Nat,m<=p.aP.length/\i=.int .i64 m/\(∀j,j<m->P7 s j=true)/\Below W0.heap.size W0 wr) (λi _=>p.aP.length - (RowKit.intOf i).toNat)
        case atStart=>exact⟨0,aK _,rfl,λj hj=>by omega,hbw⟩
        case round=>
         clear hbw hB y0 y1 x1 x2 x3 x4 x5 x6 eP eU;obtain⟨m,hm,rfl,zA,hbw⟩:=hrel;have pO:=ah zA;clear zA;have hB:=hb0.trans (hbw.mono hb0.size);obtain⟨⟨y0,y1⟩,x1,x2,x3,x4,x5,x6⟩:=hK.O wr hbw;have eP:w.heap.size+1<wr.heap.size:=aI lg hbw.size;have eU:w.heap.size<wr.heap.size:=by omega
         by_cases hml:m<p.aP.length
         ·have hm4:m<s.gY.length:=by have:=hg1.O;omega
          have hm5:m<s.O.length:=by have:=hg2.O;omega
          have hm6:m<s.bg.length:=by have:=hg3.O;omega
          obtain⟨o4,l4,r4⟩:=(hI.O wr hB).at_.int hm4;obtain⟨o5,l5,r5⟩:=(hU.O wr hB).at_.int hm5;obtain⟨o6,l6,r6⟩:=(hX.O wr hB).at_.int hm6;rcases jcg s m with⟨g1,hf⟩|⟨g1,g2,hf⟩|⟨g1,g2,g3,hf⟩|⟨g1,g2,g3,hf⟩
          rotate_left 3
          focus
           have hf':=ah hf;clear hf;go_wp2_with (go_at_call 38;refine(oH _ _ _ _).mono ?_;rintro e w' ⟨rfl,rfl⟩)
           go_roundw
           case rel=>
            refine⟨m+1,by omega,by go_num,λj hj=>?_,hbw⟩
            rcases aS.1 hj with h|rfl
            ·exact pO.O j h
            ·exact hf'.O
           case measure=>simp[RowKit.intOf];omega
          all_goals
           have bK:=ah (show oQ p s=false from yX λh=>by
            have h2:=jao h hml;rw[hf]at h2;cases h2)
           clear hf;go_wp2_with (go_at_call 38;refine(oH _ _ _ _).mono ?_;rintro e w' ⟨rfl,rfl⟩)
           go_ret
           exact⟨fK (by rw[bK.O]),hB⟩
         ·obtain rfl:m=p.aP.length:=by omega
          have bK:=ah (jgp hord.O hok'.O jtI.O hmv.O ⟨hg1.O,hg2.O,hg3.O⟩ pO.O);go_wp2_with fail;go_ret
          exact⟨fK (by rw[bK.O]),hB⟩
end Wh
