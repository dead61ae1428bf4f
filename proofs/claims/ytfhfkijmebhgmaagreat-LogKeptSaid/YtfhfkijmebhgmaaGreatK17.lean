/- Texts of the claim, joined. -/
import Derived.StillTailTactics
import Derived.Test.YtfhfkijmebhgmaaGreatK16
set_option maxHeartbeats 20000000
set_option maxRecDepth 100000
namespace Wh
open Go Go.RowKit Go.Shelf Go.Proofs Tryz
attribute [local go_sem] aT
theorem jhj(w:World)(v:Value)(l:List dZ)(o ln b n:Int)(hv:Sl ig w w.heap.size v l)(hok:iD l=true)(xB:sD o ln b):
  Calls prog 73 #[v,.int .i64 o,.int .i64 ln,.int .i64 b,.int .i64 n] w (Gives (λu w'=>Own ig 4 46 w' w.heap.size u (jH l ⟨o,ln,b,n⟩)) w):=by
 obtain⟨A,c,rfl,_,hA⟩:=hv;obtain⟨x,hx⟩:∃x:dZ,x=⟨o,ln,b,n⟩:=⟨_,rfl⟩;have kD:=SG hok;have hkx:sD x.aC x.aG x.bin:=by rw[hx];exact xB
 have hr:=(gG.1 hok).2;have hkl:∀k,k<l.length->sD (hold l k).aC (hold l k).aG (hold l k).bin:=λk hk=>Hy hok hk
 have ho:o=x.aC:=by rw[hx]
 have hln:ln=x.aG:=by rw[hx]
 have hbb:b=x.bin:=by rw[hx]
 have hnn:n=x.n:=by rw[hx]
 rw[<- hx];subst ho hln hbb hnn;have hb0:Below w.heap.size w (w.alloc (.cells #[.int .i64 (x).aC,.int .i64 (x).aG,.int .i64 (x).bin,.int .i64 (x).n] 46)):=(aj _ _).alloc (au _) _;have Ux:=ah hkx;have hkl':=ah hkl;have hr':=ah hr;clear hx xB hkx hkl hr hok;go_enter func73,ntmps73
 go_wp2_with fail;obtain⟨W0,hW0⟩:∃W0,W0=w.alloc (.cells #[.int .i64 (x).aC,.int .i64 (x).aG,.int .i64 (x).bin,.int .i64 (x).n] 46):=⟨_,rfl⟩;have hWr:w.alloc (.cells #[.int .i64 (x).aC,.int .i64 (x).aG,.int .i64 (x).bin,.int .i64 (x).n] 46)=W0:=hW0.symm;simp only[hWr]at hb0 ⊢
 have hF:∀W,Below W0.heap.size W0 W->∀k,k<l.length->(okA A/\jd A<W.heap.size/\W.cell? ⟨jd A,ou A+k*4,none⟩=some (.int .i64 (hold l k).aC)/\W.cell? ⟨jd A,ou A+k*4+1,none⟩=some (.int .i64 (hold l k).aG)/\
   W.cell? ⟨jd A,ou A+k*4+2,none⟩=some (.int .i64 (hold l k).bin)/\W.cell? ⟨jd A,ou A+k*4+3,none⟩=some (.int .i64 (hold l k).n)):=λW hW k hk=>by
  have hB:=hb0.trans (hW.mono hb0.size);exact(hA.up hB hB.size).hold hk
 have hX:∀W,Below W0.heap.size W0 W->(w.heap.size<W.heap.size/\W.cell? ⟨w.heap.size,0,none⟩=some (.int .i64 x.aC)/\W.cell? ⟨w.heap.size,1,none⟩=some (.int .i64 x.aG)/\W.cell? ⟨w.heap.size,2,none⟩=some (.int .i64 x.bin)/\W.cell? ⟨w.heap.size,3,none⟩=some (.int .i64 x.n)):=λW hW=>by
  have hsz:w.heap.size<W0.heap.size:=by rw[hW0];simp
  exact⟨aI hsz hW.size,(hW.cell (p:=⟨w.heap.size,0,none⟩) hsz).trans (by rw[hW0];simp),(hW.cell (p:=⟨w.heap.size,1,none⟩) hsz).trans (by rw[hW0];simp),(hW.cell (p:=⟨w.heap.size,2,none⟩) hsz).trans (by rw[hW0];simp),(hW.cell (p:=⟨w.heap.size,3,none⟩) hsz).trans (by rw[hW0];simp)⟩
 have hF':=ah hF;have hX':=ah hX;have rV:w.heap.size<=W0.heap.size:=hb0.size;clear hF hX hW0 hWr hA;have hd0:(x.n==0)=xg l x 0:=by rw[(TG l x).2,uj];simp
 rw[hd0];clear hd0;go_loopw[12,13,14] (λu d i wr=>∃k:Nat,k<=l.length/\i=.int .i64 k/\d=.bool (xg l x k)/\Own ig 4 46 wr W0.heap.size u (rD l x k)/\Below W0.heap.size W0 wr) (λ_ _ i _=>l.length - (RowKit.intOf i).toNat)
 case atStart=>exact⟨0,aK _,rfl,rfl,by rw[(TG l x).1];exact Own.nil,aj _ _⟩
 case round=>
  obtain⟨k,hk,rfl,rfl,lC,hbw⟩:=hrel;have hwl:=PK l x k;by_cases hlt:k<l.length
  ·have hwl1:=PK l x (k+1);obtain⟨jr6,LG,b0,b1,b2,b3⟩:=hF'.O wr hbw k hlt;obtain⟨hBz,y0,y1,y2,y3⟩:=hX'.O wr hbw;have q0:=λo d os=>bY (w:=wr) (b:=w.heap.size) hBz o d os
   have qA:=λo d os=>bY (w:=wr) (b:=jd A) LG o d os
   cases hd:xg l x k
   ·rcases wz (fP (hold l k)) (fP x)with hp|hp|hp
    ·obtain⟨hw1,hd1⟩:=Nu hr'.O hlt hp;rw[hd]at hd1
     have Ry:=ah hw1;have N8:=ah hd1;have hp1:¬(fP x<=fP (hold l k)):=by omega
     have hnb:(fP (hold l k)!=fP x)=true:=by simp;omega
     clear hw1 hd1 hd hp;go_wp2_with fail;refine dG (by kernel_rfl) (by kernel_rfl) ?_
     repeat(go_big_quiet_step ((go_at_call 125;refine gI (Fh _ _ (by first|exact Ux.O|exact hkl'.O k hlt)))))
     refine wpQuiet_nil ?_
     intro W2 hw';have hb2:=dD hw';clear hw';have hbw2:=hbw.trans (hb2.mono hbw.size);have yh:=lC.below hb2;clear q0 qA b0 b1 b2 b3 y0 y1 y2 y3;obtain⟨jce,Td,b0,b1,b2,b3⟩:=hF'.O W2 hbw2 k hlt;obtain⟨WI,y0,y1,y2,y3⟩:=hX'.O W2 hbw2;have q0:=λo d os=>bY (w:=W2) (b:=w.heap.size) WI o d os
     have qA:=λo d os=>bY (w:=W2) (b:=jd A) Td o d os
     go_wp2_with fail;refine dG (by kernel_rfl) (by kernel_rfl) ?_
     repeat(go_big_quiet_step ((go_at_call 125;refine gI (Fh _ _ (by first|exact Ux.O|exact hkl'.O k hlt)))))
     refine wpQuiet_nil ?_
     intro W5 hw';have hb5:=dD hw';clear hw';have Jj:=hbw2.trans (hb5.mono hbw2.size);have hown5:=yh.below hb5;clear q0 qA b0 b1 b2 b3 y0 y1 y2 y3;obtain⟨jjk,joh,b0,b1,b2,b3⟩:=hF'.O W5 Jj k hlt;go_wp2_with (at_builtin;refine aW ?_)
     unfold Hid;refine lS _ rfl (.tmp 52) (.tmp 57) 28 46 rfl W0.heap.size _ 4 32 underlying28 yc rfl (by decide) (by decide) _ (rD l x k) (hold l k) rfl (hown5.alloc _) ⟨W5.heap.size,0,none⟩ 1 rfl rfl (uF _ _ _) (zu _) (by omega) (by have:=Jj.size;simp;omega) ?_
     intro v7 w7 yM LC Tc ET;have QA:=(Jj.alloc Jj.size (.cells #[.int .i64 (hold l k).aC,.int .i64 (hold l k).aG,.int .i64 (hold l k).bin,.int .i64 (hold l k).n] 46)).trans ET;go_wp2_with fail;go_roundw
     case rel=>exact⟨k+1,by omega,by go_num,by rw[N8.O],by rw[Ry.O];exact yM,QA⟩
     case measure=>simp[RowKit.intOf];omega
    ·have hw1:=jaS hlt hp hd;have hd1:=RN hlt (show fP x<=fP (hold l k)by omega)
     have Ry:=ah hw1;have N8:=ah hd1;have hnb:(fP (hold l k)!=fP x)=false:=by simp;omega
     have hp1:fP x<=fP (hold l k):=by omega
     clear hw1 hd1 hd hp;go_wp2_with fail;refine dG (by kernel_rfl) (by kernel_rfl) ?_
     repeat(go_big_quiet_step ((go_at_call 125;refine gI (Fh _ _ (by first|exact Ux.O|exact hkl'.O k hlt)))))
     refine wpQuiet_nil ?_
     intro W2 hw';have hb2:=dD hw';clear hw';have hbw2:=hbw.trans (hb2.mono hbw.size);have yh:=lC.below hb2;clear q0 qA b0 b1 b2 b3 y0 y1 y2 y3;obtain⟨jun,y0,y1,y2,y3⟩:=hX'.O W2 hbw2;go_wp2_with (at_builtin;refine aW ?_)
     unfold Hid;refine lS _ rfl (.tmp 40) (.tmp 42) 28 46 rfl W0.heap.size _ 4 32 underlying28 yc rfl (by decide) (by decide) _ (rD l x k) x rfl (yh.alloc _) ⟨W2.heap.size,0,none⟩ 1 rfl rfl (uF _ _ _) (zu x) (by omega) (by have:=hbw2.size;simp;omega) ?_
     intro v3 w3 hown3 hg3 jt1 ji2;have hbw3:=(hbw2.alloc hbw2.size (.cells #[.int .i64 (x).aC,.int .i64 (x).aG,.int .i64 (x).bin,.int .i64 (x).n] 46)).trans ji2;clear y0 y1 y2 y3;obtain⟨jce,Td,b0,b1,b2,b3⟩:=hF'.O w3 hbw3 k hlt;obtain⟨WI,y0,y1,y2,y3⟩:=hX'.O w3 hbw3;have q0:=λo d os=>bY (w:=w3) (b:=w.heap.size) WI o d os
     have qA:=λo d os=>bY (w:=w3) (b:=jd A) Td o d os
     go_wp2_with fail;refine dG (by kernel_rfl) (by kernel_rfl) ?_
     repeat(go_big_quiet_step ((go_at_call 125;refine gI (Fh _ _ (by first|exact Ux.O|exact hkl'.O k hlt)))))
     refine wpQuiet_nil ?_
     intro W5 hw';have hb5:=dD hw';clear hw';have Jj:=hbw3.trans (hb5.mono hbw3.size);have hown5:=hown3.below hb5;clear q0 qA b0 b1 b2 b3 y0 y1 y2 y3;go_wp2_with fail;go_roundw
     case rel=>exact⟨k+1,by omega,by go_num,by rw[N8.O],by rw[Ry.O];exact hown5,Jj⟩
     case measure=>simp[RowKit.intOf];omega
    ·have hw1:=XD hlt hp hd;have hd1:=RN hlt (show fP x<=fP (hold l k)by omega)
     have hwl2:(rD l x k++[x]).length<=146:=by rw[aZ];simp;omega
     have Ry:=ah hw1;have N8:=ah hd1;have hp1:fP x<=fP (hold l k):=by omega
     have hnb:(fP (hold l k)!=fP x)=true:=by simp;omega
     clear hw1 hd1 hd hp;go_wp2_with fail;refine dG (by kernel_rfl) (by kernel_rfl) ?_
     repeat(go_big_quiet_step ((go_at_call 125;refine gI (Fh _ _ (by first|exact Ux.O|exact hkl'.O k hlt)))))
     refine wpQuiet_nil ?_
     intro W2 hw';have hb2:=dD hw';clear hw';have hbw2:=hbw.trans (hb2.mono hbw.size);have yh:=lC.below hb2;clear q0 qA b0 b1 b2 b3 y0 y1 y2 y3;obtain⟨jun,y0,y1,y2,y3⟩:=hX'.O W2 hbw2;go_wp2_with (at_builtin;refine aW ?_)
     unfold Hid;refine lS _ rfl (.tmp 40) (.tmp 42) 28 46 rfl W0.heap.size _ 4 32 underlying28 yc rfl (by decide) (by decide) _ (rD l x k) x rfl (yh.alloc _) ⟨W2.heap.size,0,none⟩ 1 rfl rfl (uF _ _ _) (zu x) (by omega) (by have:=hbw2.size;simp;omega) ?_
     intro v3 w3 hown3 hg3 jt1 ji2;have hbw3:=(hbw2.alloc hbw2.size (.cells #[.int .i64 (x).aC,.int .i64 (x).aG,.int .i64 (x).bin,.int .i64 (x).n] 46)).trans ji2;clear y0 y1 y2 y3;obtain⟨jce,Td,b0,b1,b2,b3⟩:=hF'.O w3 hbw3 k hlt;obtain⟨WI,y0,y1,y2,y3⟩:=hX'.O w3 hbw3;have q0:=λo d os=>bY (w:=w3) (b:=w.heap.size) WI o d os
     have qA:=λo d os=>bY (w:=w3) (b:=jd A) Td o d os
     go_wp2_with fail;refine dG (by kernel_rfl) (by kernel_rfl) ?_
     repeat(go_big_quiet_step ((go_at_call 125;refine gI (Fh _ _ (by first|exact Ux.O|exact hkl'.O k hlt)))))
     refine wpQuiet_nil ?_
     intro W5 hw';have hb5:=dD hw';clear hw';have Jj:=hbw3.trans (hb5.mono hbw3.size);have hown5:=hown3.below hb5;clear q0 qA b0 b1 b2 b3 y0 y1 y2 y3;obtain⟨jjk,joh,b0,b1,b2,b3⟩:=hF'.O W5 Jj k hlt;go_wp2_with (at_builtin;refine aW ?_)
     unfold Hid;refine lS _ rfl (.tmp 52) (.tmp 57) 28 46 rfl W0.heap.size _ 4 32 underlying28 yc rfl (by decide) (by decide) _ (rD l x k++[x]) (hold l k) rfl (hown5.alloc _) ⟨W5.heap.size,0,none⟩ 1 rfl rfl (uF _ _ _) (zu _) (by omega) (by have:=Jj.size;simp;omega) ?_
     intro v7 w7 yM LC Tc ET;have QA:=(Jj.alloc Jj.size (.cells #[.int .i64 (hold l k).aC,.int .i64 (hold l k).aG,.int .i64 (hold l k).bin,.int .i64 (hold l k).n] 46)).trans ET;go_wp2_with fail;go_roundw
     case rel=>exact⟨k+1,by omega,by go_num,by rw[N8.O],by rw[Ry.O];exact yM,QA⟩
     case measure=>simp[RowKit.intOf];omega
   ·rcases wz (fP (hold l k)) (fP x)with hp|hp|hp
    ·obtain⟨hw1,hd1⟩:=Nu hr'.O hlt hp;rw[hd]at hd1
     have Ry:=ah hw1;have N8:=ah hd1;have hp1:¬(fP x<=fP (hold l k)):=by omega
     have hnb:(fP (hold l k)!=fP x)=true:=by simp;omega
     clear hw1 hd1 hd hp;go_wp2_with fail;refine dG (by kernel_rfl) (by kernel_rfl) ?_
     repeat(go_big_quiet_step ((go_at_call 125;refine gI (Fh _ _ (by first|exact Ux.O|exact hkl'.O k hlt)))))
     refine wpQuiet_nil ?_
     intro W2 hw';have hb2:=dD hw';clear hw';have hbw2:=hbw.trans (hb2.mono hbw.size);have yh:=lC.below hb2;clear q0 qA b0 b1 b2 b3 y0 y1 y2 y3;obtain⟨jce,Td,b0,b1,b2,b3⟩:=hF'.O W2 hbw2 k hlt;obtain⟨WI,y0,y1,y2,y3⟩:=hX'.O W2 hbw2;have q0:=λo d os=>bY (w:=W2) (b:=w.heap.size) WI o d os
     have qA:=λo d os=>bY (w:=W2) (b:=jd A) Td o d os
     go_wp2_with fail;refine dG (by kernel_rfl) (by kernel_rfl) ?_
     repeat(go_big_quiet_step ((go_at_call 125;refine gI (Fh _ _ (by first|exact Ux.O|exact hkl'.O k hlt)))))
     refine wpQuiet_nil ?_
     intro W5 hw';have hb5:=dD hw';clear hw';have Jj:=hbw2.trans (hb5.mono hbw2.size);have hown5:=yh.below hb5;clear q0 qA b0 b1 b2 b3 y0 y1 y2 y3;obtain⟨jjk,joh,b0,b1,b2,b3⟩:=hF'.O W5 Jj k hlt;go_wp2_with (at_builtin;refine aW ?_)
     unfold Hid;refine lS _ rfl (.tmp 52) (.tmp 57) 28 46 rfl W0.heap.size _ 4 32 underlying28 yc rfl (by decide) (by decide) _ (rD l x k) (hold l k) rfl (hown5.alloc _) ⟨W5.heap.size,0,none⟩ 1 rfl rfl (uF _ _ _) (zu _) (by omega) (by have:=Jj.size;simp;omega) ?_
     intro v7 w7 yM LC Tc ET;have QA:=(Jj.alloc Jj.size (.cells #[.int .i64 (hold l k).aC,.int .i64 (hold l k).aG,.int .i64 (hold l k).bin,.int .i64 (hold l k).n] 46)).trans ET;go_wp2_with fail;go_roundw
     case rel=>exact⟨k+1,by omega,by go_num,by rw[N8.O],by rw[Ry.O];exact yM,QA⟩
     case measure=>simp[RowKit.intOf];omega
    ·have hw1:=jaR hr'.O hlt hp hd;have hd1:=RN hlt (show fP x<=fP (hold l k)by omega)
     have Ry:=ah hw1;have N8:=ah hd1;have hnb:(fP (hold l k)!=fP x)=false:=by simp;omega
     have hp1:fP x<=fP (hold l k):=by omega
     clear hw1 hd1 hd hp;go_wp2_with fail;refine dG (by kernel_rfl) (by kernel_rfl) ?_
     repeat(go_big_quiet_step ((go_at_call 125;refine gI (Fh _ _ (by first|exact Ux.O|exact hkl'.O k hlt)))))
     refine wpQuiet_nil ?_
     intro W2 hw';have hb2:=dD hw';clear hw';have hbw2:=hbw.trans (hb2.mono hbw.size);have yh:=lC.below hb2;clear q0 qA b0 b1 b2 b3 y0 y1 y2 y3;obtain⟨jce,Td,b0,b1,b2,b3⟩:=hF'.O W2 hbw2 k hlt;obtain⟨WI,y0,y1,y2,y3⟩:=hX'.O W2 hbw2;have q0:=λo d os=>bY (w:=W2) (b:=w.heap.size) WI o d os
     have qA:=λo d os=>bY (w:=W2) (b:=jd A) Td o d os
     go_wp2_with fail;refine dG (by kernel_rfl) (by kernel_rfl) ?_
     repeat(go_big_quiet_step ((go_at_call 125;refine gI (Fh _ _ (by first|exact Ux.O|exact hkl'.O k hlt)))))
     refine wpQuiet_nil ?_
     intro W5 hw';have hb5:=dD hw';clear hw';have Jj:=hbw2.trans (hb5.mono hbw2.size);have hown5:=yh.below hb5;clear q0 qA b0 b1 b2 b3 y0 y1 y2 y3;go_wp2_with fail;go_roundw
     case rel=>exact⟨k+1,by omega,by go_num,by rw[N8.O],by rw[Ry.O];exact hown5,Jj⟩
     case measure=>simp[RowKit.intOf];omega
    ·have hw1:=XC hlt hp hd;have hd1:=RN hlt (show fP x<=fP (hold l k)by omega)
     have Ry:=ah hw1;have N8:=ah hd1;have hp1:fP x<=fP (hold l k):=by omega
     have hnb:(fP (hold l k)!=fP x)=true:=by simp;omega
     clear hw1 hd1 hd hp;go_wp2_with fail;refine dG (by kernel_rfl) (by kernel_rfl) ?_
     repeat(go_big_quiet_step ((go_at_call 125;refine gI (Fh _ _ (by first|exact Ux.O|exact hkl'.O k hlt)))))
     refine wpQuiet_nil ?_
     intro W2 hw';have hb2:=dD hw';clear hw';have hbw2:=hbw.trans (hb2.mono hbw.size);have yh:=lC.below hb2;clear q0 qA b0 b1 b2 b3 y0 y1 y2 y3;obtain⟨jce,Td,b0,b1,b2,b3⟩:=hF'.O W2 hbw2 k hlt;obtain⟨WI,y0,y1,y2,y3⟩:=hX'.O W2 hbw2;have q0:=λo d os=>bY (w:=W2) (b:=w.heap.size) WI o d os
     have qA:=λo d os=>bY (w:=W2) (b:=jd A) Td o d os
     go_wp2_with fail;refine dG (by kernel_rfl) (by kernel_rfl) ?_
     repeat(go_big_quiet_step ((go_at_call 125;refine gI (Fh _ _ (by first|exact Ux.O|exact hkl'.O k hlt)))))
     refine wpQuiet_nil ?_
     intro W5 hw';have hb5:=dD hw';clear hw';have Jj:=hbw2.trans (hb5.mono hbw2.size);have hown5:=yh.below hb5;clear q0 qA b0 b1 b2 b3 y0 y1 y2 y3;obtain⟨jjk,joh,b0,b1,b2,b3⟩:=hF'.O W5 Jj k hlt;go_wp2_with (at_builtin;refine aW ?_)
     unfold Hid;refine lS _ rfl (.tmp 52) (.tmp 57) 28 46 rfl W0.heap.size _ 4 32 underlying28 yc rfl (by decide) (by decide) _ (rD l x k) (hold l k) rfl (hown5.alloc _) ⟨W5.heap.size,0,none⟩ 1 rfl rfl (uF _ _ _) (zu _) (by omega) (by have:=Jj.size;simp;omega) ?_
     intro v7 w7 yM LC Tc ET;have QA:=(Jj.alloc Jj.size (.cells #[.int .i64 (hold l k).aC,.int .i64 (hold l k).aG,.int .i64 (hold l k).bin,.int .i64 (hold l k).n] 46)).trans ET;go_wp2_with fail;go_roundw
     case rel=>exact⟨k+1,by omega,by go_num,by rw[N8.O],by rw[Ry.O];exact yM,QA⟩
     case measure=>simp[RowKit.intOf];omega
  ·obtain rfl:k=l.length:=by omega
   obtain⟨hBz,y0,y1,y2,y3⟩:=hX'.O wr hbw;cases hd:xg l x l.length
   ·have bK:=ah (Zo hd);clear hd;go_wp2_with (at_builtin;refine aW ?_)
    unfold Hid;refine lS _ rfl (.tmp 61) (.tmp 63) 28 46 rfl W0.heap.size _ 4 32 underlying28 yc rfl (by decide) (by decide) _ (rD l x l.length) x rfl (lC.alloc _) ⟨wr.heap.size,0,none⟩ 1 rfl rfl (uF _ _ _) (zu x) (by omega) (by have:=hbw.size;simp;omega) ?_
    intro v9 w9 jbR je hat9 jrv;go_wp2_with fail;go_ret
    refine⟨_,rfl,?_,hb0.trans (((hbw.alloc hbw.size (.cells #[.int .i64 (x).aC,.int .i64 (x).aG,.int .i64 (x).bin,.int .i64 (x).n] 46)).trans jrv).mono rV)⟩
    rw[bK.O];exact jbR.from_ rV
   ·have bK:=ah (Zn hd);clear hd;go_wp2_with fail;go_ret
    refine⟨_,rfl,?_,hb0.trans (hbw.mono rV)⟩
    rw[bK.O];exact lC.from_ rV
end Wh
namespace Wh
open Go Go.RowKit Go.Shelf Go.Proofs Tryz
attribute [local go_sem] aT jW jm kC
theorem jjL{w:World}{aO:Nat}{V:SV}{s:aJ}(p:dA)(Ab:Option Addr)(cb:Nat)(As:Option Addr)(cs:Nat)(ho:dK w aO V s):
  ∃W0:World,((w.alloc (.cells #[.slice Ab p.bQ.length cb,.slice As p.aP.length cs] 25)).alloc (.cells #[V.on,V.ak,V.aA,V.aF,V.gY,V.O,V.bg] 31)).alloc (.cells #[.slice none 0 0,.slice none 0 0,.slice none 0 0,.slice none 0 0,.slice none 0 0,.slice none 0 0,.slice none 0 0] 31)=W0/\Below w.heap.size w W0/\
   W0.heap.size=w.heap.size+1+1+1/\iV W0 w.heap.size 25 [.slice Ab p.bQ.length cb,.slice As p.aP.length cs]/\Bx W0 aO (w.heap.size+1) 31 [] V s/\jk W0 (w.heap.size+1+1) dH:=by
 have hb1:Below w.heap.size w (w.alloc (.cells #[.slice Ab p.bQ.length cb,.slice As p.aP.length cs] 25)):=(aj _ _).alloc (au _) _;have h1:iV (w.alloc (.cells #[.slice Ab p.bQ.length cb,.slice As p.aP.length cs] 25)) w.heap.size 25 [.slice Ab p.bQ.length cb,.slice As p.aP.length cs]:=iV.new _ _ _;have h2:=iV.new (w.alloc (.cells #[.slice Ab p.bQ.length cb,.slice As p.aP.length cs] 25)) 31 #[V.on,V.ak,V.aA,V.aF,V.gY,V.O,V.bg];rw[cO]at h2
 have h3:=iV.new ((w.alloc (.cells #[.slice Ab p.bQ.length cb,.slice As p.aP.length cs] 25)).alloc (.cells #[V.on,V.ak,V.aA,V.aF,V.gY,V.O,V.bg] 31)) 31 #[.slice none 0 0,.slice none 0 0,.slice none 0 0,.slice none 0 0,.slice none 0 0,.slice none 0 0,.slice none 0 0];rw[cO,cO]at h3
 refine⟨_,rfl,(hb1.alloc (by simp) _).alloc (by simp;omega) _,by simp,(h1.alloc _).alloc _,Bx.of (h2.alloc _) (((ho.below hb1).alloc _).alloc _),h3⟩
def jjV(p:dA)(s:aJ)(o k:Nat)(n but:Int)(w:World)(aO:Nat)(V:SV)(e:Ending)(w':World):Prop:=
 ∃V',V'={V with aA:=V'.aA}/\e=.returned (.tuple #[V'.val,.int .i64 (qL p s o k n but).2])/\dK w' aO V' (qL p s o k n but).1/\Step (λj=>(V.aG o).ownBlock=some j) w w'
theorem jhl(w:World)(v:Value)(p:dA)(s:aJ)(o k:Nat)(n but:Int){aO:Nat}{V:SV}(hp:mW w w.heap.size v p)(hr:lI p s)(hm:May s o k n)(ho:dK w aO V s)(rV:aO<=w.heap.size):
  Calls prog 74 #[v,V.val,.int .i64 o,.int .i64 k,.int .i64 n,.int .i64 but] w (jjV p s o k n but w aO V):=by
 obtain⟨Ab,cb,As,cs,rfl,hP',hBn,hSz,hlb,hls⟩:=sN hp;change Calls prog 74 #[.agg #[.slice Ab p.bQ.length cb,.slice As p.aP.length cs],.agg #[V.on,V.ak,V.aA,V.aF,V.gY,V.O,V.bg],.int .i64 o,.int .i64 k,.int .i64 n,.int .i64 but] w _;obtain⟨gl,cl,curl,e1,hgl,Cc,_⟩:=ho.gK hm.ho hm.hk;have hll:=Cc.lt;go_enter func74,ntmps74
 go_wp2_with fail;obtain⟨W0,hW0,hb0,hsE,hpl,hB0,hres⟩:=jjL p Ab cb As cs ho;rw[hW0];clear hW0 Cc;have y0:=hpl.cell (j:=0) rfl;have y1:=hpl.cell (j:=1) rfl;go_wp2_with fail;refine(jmN _ _ p (hP'.O _ hb0) (by have:=hr.sane.counts;omega)).mono ?_
 rintro e W1 ⟨uw,rfl,Wn,h1⟩;obtain⟨Aw,cw,rfl⟩:=Wn.isSlice;rw[CV]at Wn ⊢
 have hB1:=ah (hB0.below h1);obtain⟨jtL,f0,_,_,_⟩:=hB1.O.own.sV hm.ho hm.hk e1;obtain⟨go,co,jjB,eo,hgo,Ob,z0,z1⟩:=hB1.O.own.aU hm.ho;obtain⟨c0,c1,c2,c3,c4,c5,c6⟩:=hB1.O.cells;rw[eo]at c1
 rw[e1]at z1
 have hon:(o:Int)<(s.ak.length:Int):=by have:=hm.ho;omega
 have hkn:(k:Int)<((s.aC o).aH.length:Int):=by have:=hm.hk;omega
 have hm':=ah hm;have hr':=ah hr;have jbK:=ah Wn;have jqR:=ah (hres.below h1 hres.lt);have hlw:(way p).length<=6:=by rw[U8];exact hr.sane.counts.2.1
 have hl0:=h1.size;clear hm hr Wn hB0 y0 y1 hP' hBn hSz hpl hres;go_wp2_with fail;clear c0 c1 c2 c3 c4 c5 c6 z0 z1 f0 jtL eo Ob;go_loopw[16,4,17,18] (λi n' _ _ wr=>∃(j:Nat) (s':aJ) (m:Int) (V':SV),V'={V with aA:=V'.aA}/\j<=(way p).length/\i=.int .i64 j/\n'=.int .i64 m/\lI p s'/\May s' o k m/\uo o k but ((way p).drop j) s' m=qL p s o k n but/\
  Bx wr aO (w.heap.size+1) 31 [] V' s'/\(s'.aG o k).dh=(s.aG o k).dh/\Step (λj=>j=w.heap.size+1\/(V.aG o).ownBlock=some j) W1 wr) (λi _ _ _ _=>(way p).length - (RowKit.intOf i).toNat)
 case atStart=>exact⟨0,s,n,V,rfl,aK _,rfl,rfl,hr'.O,hm'.O,rfl,hB1.O,rfl,Step.refl _ _⟩
 case round=>
  clear hr' hm' hB1;obtain⟨j,s',m,V',hsb,hj,rfl,rfl,hr,hm,htg,hBx,hgd,hst⟩:=hrel;have hr':=ah hr;have hm':=ah hm;have jh8:=ah htg;have jel:=ah hBx;have hst':=ah hst;have hgd':=ah hgd;have hks:=ah (show ∀j,(j=w.heap.size+1\/(V.aG o).ownBlock=some j)->j<=w.heap.size+1 from λj h=>by
   rcases h with rfl|h
   ·omega
   ·rw[e1]at h
    change some gl=some j at h
    injection h with h
    omega)
  by_cases hlt:j<(way p).length
  ·have hwb:=I4 p _ (bU hlt);have hwr:=jbK.O.step hst (λk hk jnD=>absurd (hks.O k jnD) (by have:=(jbK.O.size k hk).1;omega))
   obtain⟨gw,cw',juI,ew,hgw,hbw,zw⟩:=dK.BF hwr (g:=j) (by rw[CV];exact hlt)
   rw[ZM hlt]at zw
   obtain⟨wb,jdO⟩:∃x,x=(way p)[j]:=⟨_,rfl⟩;rw[<- jdO]at zw hwb
   have jh5:=ah jdO;clear jdO;obtain rfl:Aw=some ⟨gw,0,none⟩:=by injection ew
   clear ew;have hgood:=ah (hr.sane.aG hm.ho hm.hk);have hjl:(j:Int)<((way p).length:Int):=by omega
   have hr2:=ah hr.sane;have hbb:=ah (show 0<=(wb:Int)/\(wb:Int)<p.bQ.length by omega)
   have Rz:=ah hsb;have hdr:uo o k but (wb::(way p).drop (j+1)) s' m=qL p s o k n but:=by rw[jh5.O,<- drop_at hlt];exact jh8.O
   have hdr':=ah hdr;obtain⟨c0,c1,c2,c3,c4,c5,c6⟩:=hBx.cells;clear hr hm htg hBx hst hwr hbw hsb hdr hgd;by_cases Pz:(wb:Int)=but
   ·have hq:((wb:Int)==but)=true:=by simpa using Pz
    have XW:=ah (show uo o k but ((way p).drop (j+1)) s' m=qL p s o k n but by rw[<- hdr'.O,zn (.inl Pz)])
    clear Pz;go_wp2_with fail;go_roundw
    case rel=>exact⟨j+1,s',m,V',Rz.O,by omega,by go_num,rfl,hr'.O,hm'.O,XW.O,jel.O,hgd'.O,hst'.O⟩
    case measure=>simp[RowKit.intOf];omega
   ·have hq:((wb:Int)==but)=false:=by simpa using Pz
    have jrm:=ah Pz;clear Pz;go_wp2_with fail;clear c0 c1 c2 c3 c4 c5 c6 zw;refine(jbe _ _ p s' wb (s.aG o k).dh (jel.O.own.view hr2.O) hr2.O hbb.O (by rw[<- hgd'.O];exact hgood.O.1)).mono ?_
    rintro e W6 ⟨rfl,hb6⟩;obtain⟨mm,hmm⟩:∃x,(if lU s' ↑wb (s.aG o k).dh<m then lU s' ↑wb (s.aG o k).dh else m)=x:=⟨_,rfl⟩
    have hmin:mm=min m (lU s' wb (s'.aG o k).dh):=by rw[<- hmm,hgd'.O];split<;>omega
    have hav:=hm'.O.lU hr'.O hwb;have hmb:=hm'.O.dP;have hm0:=hm'.O.n0;have hgb:=hgood.O;have hmr:mm<=m/\m<=200/\0<=mm/\mm<=lU s' wb (s'.aG o k).dh:=by omega
    have hbr:0<=(s'.aG o k).dP/\(s'.aG o k).dP<=200:=by omega
    have NW:=ah (hst'.O.trans (.of_below hb6));have hBx6:=ah (jel.O.below hb6);have hmin':=ah hmin;have jkT:=ah hmr;clear hmin hav hmb hm0 hgb hmr;by_cases hge:1<=mm
    ·have hge0:0<mm:=by omega
     have hfit:=ah (hm'.O.fits hwb hge jkT.O.1 jkT.O.2.2.2);have XW:=ah (show uo o k but ((way p).drop (j+1)) (tZ s' o k wb mm) (m - mm)=qL p s o k n but by rw[<- hdr'.O,F8 jrm.O (by rw[<- hmin'.O];exact hge),<- hmin'.O])
     have kD:=su hr2.O.aA;have jed:aO<=W6.heap.size:=aY rV (aY hb0.size (aY hl0 (aY hst'.O.size hb6.size)));have hkr:=La hr'.O hfit.O;have hw0:IntKind.i64.wrap (bW s'.aA o k wb+mm)=bW s'.aA o k wb+mm:=aN _ (by omega)
     go_wp2_with fail;clear hmm;refine qZ 15 [λgq _=>gq 52=.pointer (some ⟨w.heap.size+1,2,none⟩),λgq _=>gq 53=V'.aA,λgq _=>gq 54=.int .i64 o,λgq _=>gq 55=.int .i64 k,λgq _=>gq 56=.int .i64 wb,λgq _=>gq 57=.pointer (some ⟨w.heap.size+1,2,none⟩),λgq _=>gq 58=V'.aA,λgq _=>gq 59=.int .i64 o,λgq _=>gq 60=.int .i64 k,λgq _=>gq 61=.int .i64 wb,λgq w'=>(λv w'=>v=.int .i64 (bW s'.aA o k wb)) (gq 62) w',λgq _=>gq 63=.int .i64 mm,λgq _=>gq 64=.int .i64 (bW s'.aA o k wb+mm),λgq w'=>(λv w'=>Own ig 4 46 w' W6.heap.size v (tZ s' o k wb mm).aA) (gq 65) w',λgq _=>gq 66=.pointer (some ⟨w.heap.size+1,2,none⟩)] (by kernel_rfl) (by kernel_rfl) rfl (by kernel_rfl) ?_ (λf w2 hb2 hR=>?_)
     simp only[bC,bV];refine dX.cons (iR.val rfl rfl (λgq w' hb ho hd=>?_)) ?_
     ·have e7:=ho 7 rfl;go_simp
     refine dX.cons (iR.val rfl rfl (λgq w' hb ho hd=>?_)) ?_
     ·have e52:gq 52=.pointer (some ⟨w.heap.size+1,2,none⟩):=hd ⟨0,.data⟩ (by simp) rfl (by decide)
      have x2:=(hBx6.O.below hb).cells.2.2.1;go_simp
     refine dX.cons (iR.val rfl rfl (λgq w' hb ho hd=>?_)) ?_
     ·have e2:=ho 2 rfl;go_simp
     refine dX.cons (iR.val rfl rfl (λgq w' hb ho hd=>?_)) ?_
     ·have e3:=ho 3 rfl;go_simp
     refine dX.cons (iR.val rfl rfl (λgq w' hb ho hd=>?_)) ?_
     ·have e17:=ho 17 rfl;go_simp
     refine dX.cons (iR.val rfl rfl (λgq w' hb ho hd=>?_)) ?_
     ·have e7:=ho 7 rfl;go_simp
     refine dX.cons (iR.val rfl rfl (λgq w' hb ho hd=>?_)) ?_
     ·have e57:gq 57=.pointer (some ⟨w.heap.size+1,2,none⟩):=hd ⟨5,.data⟩ (by simp) rfl (by decide)
      have x2:=(hBx6.O.below hb).cells.2.2.1;go_simp
     refine dX.cons (iR.val rfl rfl (λgq w' hb ho hd=>?_)) ?_
     ·have e2:=ho 2 rfl;go_simp
     refine dX.cons (iR.val rfl rfl (λgq w' hb ho hd=>?_)) ?_
     ·have e3:=ho 3 rfl;go_simp
     refine dX.cons (iR.val rfl rfl (λgq w' hb ho hd=>?_)) ?_
     ·have e17:=ho 17 rfl;go_simp
     refine dX.cons (iR.one (d:=62) (p:=(λv w'=>v=.int .i64 (bW s'.aA o k wb))) rfl rfl (λv w1 w2 h hb=>h) (λgq w' hb ho hd=>?_)) ?_
     ·have e58:gq 58=V'.aA:=hd ⟨6,.data⟩ (by simp) rfl (by decide)
      have e59:gq 59=.int .i64 o:=hd ⟨7,.data⟩ (by simp) rfl (by decide)
      have e60:gq 60=.int .i64 k:=hd ⟨8,.data⟩ (by simp) rfl (by decide)
      have e61:gq 61=.int .i64 wb:=hd ⟨9,.data⟩ (by simp) rfl (by decide)
      have hs:=(hBx6.O.below hb).own.aA.sl (by omega)
      unfold iT;go_simp
      refine(Zy w' _ s'.aA o k wb hs).mono ?_
      rintro e w2 ⟨rfl,rfl⟩;exact⟨_,rfl,rfl,aj _ _⟩
     refine dX.cons (iR.val rfl rfl (λgq w' hb ho hd=>?_)) ?_
     ·have e18:=ho 18 rfl;go_simp
     refine dX.cons (iR.val rfl rfl (λgq w' hb ho hd=>?_)) ?_
     ·have e62:(gq 62)=.int .i64 (bW s'.aA o k wb):=hd ⟨10,.data⟩ (by simp) rfl (by decide)
      have e63:gq 63=.int .i64 mm:=hd ⟨11,.data⟩ (by simp) rfl (by decide)
      go_simp
     refine dX.cons (iR.one (d:=65) (p:=(λv w'=>Own ig 4 46 w' W6.heap.size v (tZ s' o k wb mm).aA)) rfl rfl (λv w1 w2 h hb=>h.below hb) (λgq w' hb ho hd=>?_)) ?_
     ·have e53:gq 53=V'.aA:=hd ⟨1,.data⟩ (by simp) rfl (by decide)
      have e54:gq 54=.int .i64 o:=hd ⟨2,.data⟩ (by simp) rfl (by decide)
      have e55:gq 55=.int .i64 k:=hd ⟨3,.data⟩ (by simp) rfl (by decide)
      have e56:gq 56=.int .i64 wb:=hd ⟨4,.data⟩ (by simp) rfl (by decide)
      have e64:gq 64=.int .i64 (bW s'.aA o k wb+mm):=hd ⟨12,.data⟩ (by simp) rfl (by decide)
      have hs:=(hBx6.O.below hb).own.aA.sl (by omega)
      unfold iT;go_simp
      refine(jhj w' _ s'.aA o k wb _ hs hr2.O.aA (Jg hr2.O hm'.O.ho hm'.O.hk hwb)).mono ?_
      rintro e w2 ⟨u,rfl,hu,hb2⟩;exact⟨u,rfl,hu.from_ hb.size,hb2⟩
     refine dX.cons (iR.val rfl rfl (λgq w' hb ho hd=>?_)) ?_
     ·have e7:=ho 7 rfl;go_simp
     exact dX.nil;obtain⟨r52,r53,r54,r55,r56,r57,r58,r59,r60,r61,r62,r63,r64,r65,r66,_⟩:=hR;replace r62:(f 62)=.int .i64 (bW s'.aA o k wb):=r62;replace r65:Own ig 4 46 w2 W6.heap.size (f 65) (tZ s' o k wb mm).aA:=r65;simp only[kG,zB,bC,bV,eG,gW,eX,fF,fB,gV,bM,dF,dL,r52,r53,r54,r55,r56,r57,r58,r59,r60,r61,r62,r63,r64,r66];clear r52 r53 r54 r55 r56 r57 r58 r59 r60 r61 r62 r63 r64 r66;obtain⟨A7,c7,hv7⟩:=r65.isSlice;rw[hv7]at r65
     simp only[hv7];have FV:=ah (hBx6.O.below hb2);have hu7:=ah (r65.from_ jed);clear r65 hv7;refine GV rfl (.tmp 66) (.tmp 65) rfl rfl A7 _ c7 _ FV.O rfl rfl hu7.O (λw8 Jm AX=>?_)
     refine fC ?_
     have hv8:V'.aG o=.slice (some ⟨gl,0,none⟩) (s.aC o).aH.length cl:=by rw[Rz.O];exact e1
     obtain⟨jrc,f0,f1,f2,f3⟩:=Jm.own.sV (s:={s' with aA:=(tZ s' o k wb mm).aA}) hm'.O.ho hm'.O.hk hv8
     obtain⟨go8,co8,curo8,eo8,hgo8,jnV,z0,z1⟩:=Jm.own.aU (s:={s' with aA:=(tZ s' o k wb mm).aA}) hm'.O.ho
     obtain⟨c0,c1,c2,c3,c4,c5,c6⟩:=Jm.cells;rw[eo8]at c1
     have z1':w8.cell? ⟨go8,o*2+1,none⟩=some (V'.aG o):=z1;rw[hv8]at z1'
     have hon8:(o:Int)<(s'.ak.length:Int):=by have:=hm'.O.ho;omega
     have hkn8:(k:Int)<((s.aC o).aH.length:Int):=by omega
     have Oh:=ah Jm;have hw1:IntKind.i64.wrap ((s'.aG o k).dP - mm)=(s'.aG o k).dP - mm:=aN _ (by omega)
     have hw2:IntKind.i64.wrap (m - mm)=m - mm:=aN _ (by have:=jkT.O;omega)
     have f3':w8.cell? ⟨gl,k*4+3,none⟩=some (.int .i64 (s'.aG o k).dP):=f3;have js7:=ah hv8;clear Jm f0 f1 f2 f3 z0 z1 c0 c2 c3 c4 c5 c6 eo8 jnV hv8 hw0;go_wp2_with fail;go_still_tail 21,(by kernel_rfl)
     change wpList _ _ _ _ _ w8.drew;refine AO rfl (.tmp 87) (.tmp 85) rfl rfl (j:=3) (y:={s'.aG o k with dP:=(s'.aG o k).dP - mm}) Oh.O.drew hm'.O.ho hm'.O.hk js7.O (by decide) rfl rfl rfl (λw9 jjh wJ=>?_)
     refine fC ?_
     have jjg:=ah (show Bx w9 aO (w.heap.size+1) 31 [] {V' with aA:=.slice A7 (tZ s' o k wb mm).aA.length c7} (tZ s' o k wb mm)from jjh)
     have jid:=ah (((NW.O.trans (.of_below hb2)).trans (AX.mono λ_ h=>.inl h)).trans ((Step.of_below (aj _ _).drew).trans (wJ.mono λq hq=>.inr (by rw[hq,e1];rfl))))
     have jtO:=ah (show((tZ s' o k wb mm).aG o k).dh=(s.aG o k).dh by rw[(Em hfit.O o k).1];exact hgd'.O)
     clear f3' jjh wJ AX c1 z1';go_wp2_with fail;go_roundw
     case rel=>exact⟨j+1,tZ s' o k wb mm,m - mm,_,show _=_ by rw[Rz.O],by omega,by go_num,rfl,NY hr'.O hfit.O,hm'.O.held (Held.one hr'.O hfit.O) jkT.O.1,XW.O,jjg.O,jtO.O,jid.O⟩
     case measure=>simp[RowKit.intOf];omega
    ·have hle0:¬ 0<mm:=by omega
     have XW:=ah (show uo o k but ((way p).drop (j+1)) s' m=qL p s o k n but by rw[<- hdr'.O,zn (.inr (by rw[<- hmin'.O];omega))])
     clear hge;go_wp2_with fail;clear hmm;go_roundw
     case rel=>exact⟨j+1,s',m,V',Rz.O,by omega,by go_num,rfl,hr'.O,hm'.O,XW.O,hBx6.O,hgd'.O,NW.O⟩
     case measure=>simp[RowKit.intOf];omega
  ·obtain rfl:j=(way p).length:=by omega
   have bK:=ah (show(s',m)=qL p s o k n but by rw[<- jh8.O,wS];rfl)
   have Rz:=ah hsb;obtain⟨c0,c1,c2,c3,c4,c5,c6⟩:=hBx.cells;have jl6:jk wr (w.heap.size+1+1) dH:=hst.blk jqR.O.blk (λh=>by have:=hks.O _ h;omega)
   have hone:=hBx.own.one;clear hr hm htg hBx hst hsb;go_wp2_with (refine dB (.tmp 12) (.tmp 91) dH V' rfl jl6 rfl hone (λw9 dM je=>?_))
   have wC:=jel.O.own.keptBy je jl6.blk (by decide) (by decide) (by decide) (by decide) (by decide) (by decide)
   obtain⟨p0,p1,p2,p3,p4,p5,p6⟩:=dM.cells;have dN:Step (λj=>(V.aG o).ownBlock=some j) w w9:=
    ((Step.of_below (hb0.trans (h1.mono hb0.size))).trans' hst'.O (λq hq h=>h.resolve_left (by omega))).trans' (Step.jR (ks:=λq=>q=w.heap.size+1+1) je (λq hq=>by injection hq with hq;exact hq.symm)) (λq hq h=>by omega)
   clear c0 c1 c2 c3 c4 c5 c6;go_wp2_with fail;exact fD (v:=.tuple #[V'.val,.int .i64 m]) (by simp[results,results74,go_sem,SV.val,p0,p1,p2,p3,p4,p5,p6]) rfl ⟨V',Rz.O,by rw[<- bK.O],by rw[<- bK.O];exact wC,dN⟩
end Wh
namespace Wh
open Go Go.RowKit
section
variable {P:Program} {l:List Oper} {n:Nat} {R:Nat→(Nat→Value)→World→Prop} {Q:Exit→Act→World→Prop} {a:Act} {w:World}
def RZ(P:Program)(l:List Oper)(n:Nat)(R:Nat->(Nat->Value)->World->Prop)(Q:Exit->Act->World->Prop)(a:Act)(T J:World->Prop)(Eb:World->World->Prop)(brk i:Nat)(o:Oper):Prop:=
 ∀f w',T w'->(i=brk->J w')->Iz n R f w' o->
  o.wp P (kG a (l.take n) f) w' (λa' w''=>∃v,a'=(kG a (l.take n) f).put o.dst v/\R i (qI f o.dst v) w''/\((i≠brk/\Below w'.heap.size w' w'')\/(i=brk/\Eb w' w''))) Q
theorem jfu{T J:World->Prop}{Eb:World->World->Prop}{brk:Nat}(hT1:∀w1 w2,T w1->Below w1.heap.size w1 w2->T w2)(hT2:∀w1 w2,T w1->Eb w1 w2->T w2)(hJ:∀w1 w2,J w1->Below w1.heap.size w1 w2->J w2)(hle:n<=l.length)(NU:∀dJ,HeadInv .any l.toArray n dJ->∀i,i<n->dJ.getD i true=false->∀t,n<=t->t ∉ Region.ready .any l.toArray dJ)(hseq:Region.seqB .any l.toArray (l.length - n) n (KU l.length n)=true)
  (hg:∀i o,i<n->l[i]?=some o->o.guard=none) (hnd:((l.take n).filterMap (·.dst)).Nodup) (yw:∀i o,i<n->l[i]?=some o->∀e∈o.after,Region.binds .any e=true->e.on<i)
  (hst:∀i g w1 w2,R i g w1->Below w1.heap.size w1 w2->R i g w2) (hst2:∀i g w1 w2,i≠brk->R i g w1->Eb w1 w2->R i g w2) (yg:∀i g g' w,(∀j o d,JD l j i->l[j]?=some o->o.dst=some d->g d=g' d)->R i g w->R i g' w) (AV:∀i o,i<n->l[i]?=some o->RZ P l n R Q a T J Eb brk i o)
  (hend:∀f w',T w'->(∀i,i<n->R i f w')->wpList P l.toArray Q (l.drop n) (kG a (l.take n) f) w'):
  ∀(k:Nat) (dJ:Array Bool) (f:Nat->Value) (w':World),HeadInv .any l.toArray n dJ->Sj dJ n=k->T w'->(dJ.getD brk false=false->J w')->(∀i,i<n->dJ.getD i false=true->R i f w')->
   wpAny P .any l.toArray Q (k+(l.length - n)) dJ (kG a (l.take n) f) w'
 |0,dJ,f,w',inv,hk,hb,_,hR=>by
  have hsz:dJ.size=l.length:=by rw[inv.size];simp
  have he:dJ=KU l.length n:=by
   apply nO;intro i;unfold KU;rw[sH]
   simp only[tK];by_cases hi:i<n
   ·rw[aB hi];have h1:=D9 hk hi;have h2:i<dJ.size:=by omega
    simp[hi,h2,Array.getD]at h1 ⊢
    exact h1
   ·rw[ay hi];by_cases hl:i<l.length
    ·have h1:=inv.tail i (by omega) (by simpa using hl)
     have h2:i<dJ.size:=by omega
     have h3:i - n<l.length - n:=by omega
     simp[h2,h3,Array.getD]at h1 ⊢
     exact h1
    ·rw[fZ (by omega),fZ (by simp;omega)]
  have hd:l.length - n=(l.drop n).length:=by simp
  rw[eY,hd];refine wpAny_of_seq (l.drop n) n dJ _ w' (λj=>by simp) (by rw[he,<- hd];exact hseq) (hend f w' hb λi hin=>hR i hin ?_)
  have h1:=D9 hk hin;have h2:i<dJ.size:=by omega
  simp[h2,Array.getD]at h1 ⊢
  exact h1
 |k+1,dJ,f,w',inv,hk,hb,hJw,hR=>by
  have hsz:dJ.size=l.length:=by rw[inv.size];simp
  obtain⟨i0,hi0,hu0⟩:=UL (show 0<Sj dJ n by omega)
  have hne:∀i,i<n->dJ.getD i true=false->Region.ready .any l.toArray dJ≠[]:=by
   intro i;induction i using Nat.strongRecOn with
   |_ i ih=>
    intro hin hu;have hil:i<l.length:=by omega
    by_cases kE:∀e∈(l[i]).after,Region.binds .any e=true->dJ.getD e.on false=true
    ·have:i∈Region.ready .any l.toArray dJ:=nR.2 ⟨hu,l[i],by simp[hil],kE⟩
     intro h0;rw[h0]at this
     cases this
    ·simp only[tJ]at kE
     obtain⟨e,he,hbd,hno⟩:=kE;have hlt:=yw i l[i] hin (by simp[hil]) e he hbd
     exact ih e.on hlt (by omega) (getD_in (by omega) (by simpa using hno))
  rw[show k+1+(l.length - n)=(k+(l.length - n))+1 by omega]
  refine⟨λh0=>absurd h0 (hne i0 hi0 hu0),λi hi=>?_⟩
  have hin:i<n:=by
   rcases rO i n with h|h
   ·exact h
   ·exact absurd hi (NU dJ inv i0 hi0 hu0 i h)
  obtain⟨hu,o,ho,kE⟩:=nR.1 hi;have ho':l[i]?=some o:=by simpa using ho
  have hgd:=hg i o hin ho';have h1:=AV i o hin ho' f w' hb (λe=>hJw (by rw[<- e];exact getD_both hu)) λe he hbd hen=>hR e.on hen (kE e he hbd)
  unfold wpOp;simp only[ho];rw[aB (by simp[Region.wanted,hgd])]
  refine .inl (oD ?_ h1)
  rintro a' w'' ⟨v,rfl,hv,hbw⟩;have hcount:Sj (dJ.setIfInBounds i true) n=k:=by
   have:=UK hu n;rw[aB hin]at this
   omega
  have hb2:T w'':=by
   rcases hbw with⟨_,hbw⟩|⟨_,hbw⟩
   ·exact hT1 _ _ hb hbw
   ·exact hT2 _ _ hb hbw
  have hJ2:(dJ.setIfInBounds i true).getD brk false=false->J w'':=λh=>by
   rcases hbw with⟨hne,hbw⟩|⟨rfl,_⟩
   ·rw[kT false hne]at h
    exact hJ _ _ (hJw h) hbw
   ·rw[BK false (II hu)]at h
    cases h
  have MG:∀j k,JD l j k->k<n->dJ.getD k false=true->j<n/\dJ.getD j false=true:=by
   intro j k h;induction h with
   |self=>exact λh1 h2=>⟨h1,h2⟩
   |dP ho he hbd hon _ ih=>
    intro h1 h2;subst hon;have:=yw _ _ h1 ho _ he hbd;exact ih (by omega) (inv.closed _ _ (by simpa using ho) h2 _ he hbd)
  have bK:(kG a (l.take n) f).put o.dst v=kG a (l.take n) (qI f o.dst v):=by
   cases hdst:o.dst with
   |none=>rfl
   |some d0=>
    unfold kG Act.put qI;simp only;rw[Pj (Eo ho' hin hdst)]
  rw[bK];refine jfu hT1 hT2 hJ hle NU hseq hg hnd yw hst hst2 yg AV hend k _ (qI f o.dst v) w'' (inv.set hi hin) hcount hb2 hJ2 λj hjn hl=>?_
  by_cases hij:i=j
  ·subst hij;exact hv
  ·rw[kT false hij]at hl
   refine yg j f _ _ (λj' oj d haj hoj hd=>?_) (by
    rcases hbw with⟨_,hbw⟩|⟨rfl,hbw⟩
    ·exact hst _ _ _ _ (hR j hjn hl) hbw
    ·exact hst2 _ _ _ _ (λe=>hij e.symm) (hR j hjn hl) hbw)
   obtain⟨jd2,Wu⟩:=MG _ _ haj hjn hl;cases hdst:o.dst with
   |none=>rfl
   |some d0=>
    have hne:i≠j':=λe=>by
     subst e;rw[getD_both hu]at Wu
     cases Wu
    have hdd:=jat hnd ho' hin hdst hoj jd2 hd hne;unfold qI upd;simp only;rw[ay (λe=>hdd e.symm)]
theorem jlG(n:Nat)(T J:World->Prop)(Eb:World->World->Prop)(brk:Nat)(R:Nat->(Nat->Value)->World->Prop)(hB:G5 l n=true)(hT1:∀w1 w2,T w1->Below w1.heap.size w1 w2->T w2)(hT2:∀w1 w2,T w1->Eb w1 w2->T w2)(hJ:∀w1 w2,J w1->Below w1.heap.size w1 w2->J w2)(hT0:T w.drew)(hJ0:J w.drew)
  (hst:∀i g w1 w2,R i g w1->Below w1.heap.size w1 w2->R i g w2) (hst2:∀i g w1 w2,i≠brk->R i g w1->Eb w1 w2->R i g w2)
  (yg:∀i g g' w,(∀j o d,JD l j i->l[j]?=some o->o.dst=some d->g d=g' d)->R i g w->R i g' w) (AV:∀i o,i<n->l[i]?=some o->RZ P l n R Q a T J Eb brk i o)
  (hend:∀f w',T w'->(∀i,i<n->R i f w')->wpList P l.toArray Q (l.drop n) (kG a (l.take n) f) w'):wpAny P .any l.toArray Q l.toArray.size (Array.replicate l.toArray.size false) a w.drew:=by
 simp only[G5,bG,fV,bD,aX]at hB
 obtain⟨⟨⟨⟨hw,hseq⟩,hg⟩,hnd⟩,yw⟩:=hB;have hle:n<=l.length:=by rcases hw with h|h<;>omega
 have hat:∀i o,i<n->l[i]?=some o->o∈l.take n:=λi o hin hi=>by
  rw[pW];exact⟨i,by rw[gJ];simp[hin,hi]⟩
 have H:=jfu (P:=P) (Q:=Q) (a:=a) hT1 hT2 hJ hle ?_ hseq (λi o hin hi=>by simpa using hg o (hat i o hin hi)) hnd ?_ hst hst2 yg AV hend n (Array.replicate l.toArray.size false) (λd=>a.tmps.getD d undef) w.drew
  ⟨by simp,λj oj _ hl=>(by rw[getD_replicate_false]at hl;cases hl),λt _ ht=>getD_in (by simpa using ht) (getD_replicate_false _ _)⟩ ?_ hT0 (λ_=>hJ0) (λi _ hl=>by rw[getD_replicate_false]at hl;cases hl)
 ·have e:kG a (l.take n) (λd=>a.tmps.getD d undef)=a:=by
   unfold kG;rw[MJ]
  rw[e]at H
  have hs:n+(l.length - n)=l.toArray.size:=by simp;omega
  rw[hs]at H
  exact H
 ·intro dJ inv i hin hu t ht hr;rcases hw with h|⟨⟨h1,h2⟩,h3⟩
  ·obtain⟨_,o,ho,_⟩:=nR.1 hr;have:=(bJ.1 ho).1
   simp at this
   omega
  ·exact tail_waits h2 h3 (by simpa using h1) inv (n - i) i rfl hin hu t ht hr
 ·intro i o hin hi e he hbd;have:=yw i (gZ.2 hin);rw[hi]at this
  simp only[iH,jl,iU,fV,kS,bD]at this
  rcases this e he with h|h
  ·rw[h]at hbd;cases hbd
  ·exact h
 ·have key:∀m,m<=l.length->Sj (Array.replicate l.toArray.size false) m=m:=by
   intro m;induction m with
   |zero=>intro _;rfl
   |succ m ih=>
    intro hm;have:=ih (by omega)
    unfold Sj at this ⊢
    have hml:m<l.length:=by omega
    rw[lJ,pG,this];simp[hml]
  exact key n hle
theorem iT.mono{P:Program}{o:Oper}{ev:Operand->Value}{w:World}{K K':Value->World->Prop}(hk:∀v w,K v w->K' v w)(h:iT P o ev w K):iT P o ev w K':=by
 unfold iT at*
 generalize (execOp ev o).run P w=r at*
 cases r with
 |ok n w'=>
  cases n<;>simp only at h ⊢
  case value v=>exact hk _ _ h
  case skip=>exact hk _ _ h
  case enter f args=>exact h.mono λe w'' ⟨v,he,h⟩=>⟨v,he,hk _ _ h⟩
 |halt x w'=>exact h
theorem RZ.of{T J:World->Prop}{Eb:World->World->Prop}{brk:Nat}{i:Nat}{o:Oper}(hi:i<n)(hB:G5 l n=true)(hsz:((l.take n).filterMap (·.dst)).all (λd=>decide (d<a.tmps.size))=true)
  (yg:∀i g g' w,(∀j o d,JD l j i->l[j]?=some o->o.dst=some d->g d=g' d)->R i g w->R i g' w)
  (h:∀(g:Nat->Value) w',T w'->(i=brk->J w')->(∀d,((l.take n).filterMap (·.dst)).contains d=false->g d=a.tmps.getD d undef)->Iz n R g w' o->iT P o (UZ g) w' λv w''=>R i (qI g o.dst v) w''/\((i≠brk/\Below w'.heap.size w' w'')\/(i=brk/\Eb w' w''))):
  RZ P l n R Q a T J Eb brk i o:=by
 simp only[G5,bG,fV,bD,aX]at hB
 obtain⟨_,yw⟩:=hB;have QD:∀k oe,k<n->l[k]?=some oe->∀e∈oe.after,Region.binds .any e=true->e.on<k:=λk oe hk hoe e he hbd=>by
  have:=yw k (gZ.2 hk);rw[hoe]at this
  simp only[iH,jl,iU,fV,kS,bD]at this
  rcases this e he with h|h
  ·rw[h]at hbd;cases hbd
  ·exact h
 have MG:∀j k,JD l j k->k<n->j<n:=by
  intro j k h;induction h with
  |self=>exact id
  |dP ho he hbd hon _ ih=>
   intro h1;subst hon;have:=QD _ _ h1 ho _ he hbd;exact ih (by omega)
 have hsz':∀d∈(l.take n).filterMap (·.dst),d<a.tmps.size:=λd hd=>by
  have:=aX.1 hsz d hd;simpa using this
 intro f w' hb hj hd;have hg:∀d∈(l.take n).filterMap (·.dst),(kG a (l.take n) f).tmps.getD d undef=f d:=λd hd=>by
  have h1:=zV ((l.take n).filterMap (·.dst)) f a.tmps d
  rw[aB (hsz' d hd),aB hd]at h1
  unfold kG;simp only[ji,h1,jl]
 have ho:∀d,((l.take n).filterMap (·.dst)).contains d=false->(kG a (l.take n) f).tmps.getD d undef=a.tmps.getD d undef:=λd hd=>by
  have h1:=zV ((l.take n).filterMap (·.dst)) f a.tmps d
  have h2:d ∉ (l.take n).filterMap (·.dst):=by simpa using hd
  rw[ay h2]at h1
  unfold kG;simp only[ji,h1];by_cases hl:d<a.tmps.size
  ·rw[aB hl]
  ·rw[ay hl,fZ (qK hl)]
 have key:=h (λd=>(kG a (l.take n) f).tmps.getD d undef) w' hb hj ho (λe he hbd hen=>yg e.on f _ _ (λj oj d haj hoj hdj=>(hg d (Eo hoj (MG _ _ haj hen) hdj)).symm) (hd e he hbd hen))
 rw[<- RJ]at key
 refine oD ?_ key.wp
 rintro a' w'' ⟨v,rfl,hr,hbw⟩;refine⟨v,rfl,yg i _ _ _ (λj oj d haj hoj hdj=>?_) hr,hbw⟩
 have hjn:=MG _ _ haj hi;have hmem:=Eo hoj hjn hdj;cases hdst:o.dst with
 |none=>exact hg d hmem
 |some d0=>
  unfold qI upd;simp only;split
  ·rfl
  ·exact hg d hmem
def mX(P:Program)(l:List Oper)(n:Nat)(Rs:List vV)(a:Act)(T J:World->Prop)(Eb:World->World->Prop)(brk i:Nat)(o:Oper)(p:vV):Prop:=
 (∀g w1 w2,p g w1->Below w1.heap.size w1 w2->p g w2)/\(i≠brk->∀g w1 w2,p g w1->Eb w1 w2->p g w2)/\(∀g g' w,(∀j o d,JD l j i->l[j]?=some o->o.dst=some d->g d=g' d)->p g w->p g' w)/\
 ∀g w',T w'->(i=brk->J w')->(∀d,((l.take n).filterMap (·.dst)).contains d=false->g d=a.tmps.getD d undef)->Iz n (atR Rs) g w' o->
  iT P o (UZ g) w' λv w''=>p (qI g o.dst v) w''/\((i≠brk/\Below w'.heap.size w' w'')\/(i=brk/\Eb w' w''))
def iW(P:Program)(l:List Oper)(n:Nat)(Rs:List vV)(a:Act)(T J:World->Prop)(Eb:World->World->Prop)(brk:Nat):Nat->List Oper->List vV->Prop
 |_,[],_=>True
 |_,_::_,[]=>False
 |i,o::r,p::ps=>mX P l n Rs a T J Eb brk i o p/\iW P l n Rs a T J Eb brk (i+1) r ps
section
variable {Rs:List vV} {T J:World→Prop} {Eb:World→World→Prop} {brk:Nat}
theorem iW.at:∀ {r:List Oper} {ps:List vV} {k:Nat},iW P l n Rs a T J Eb brk k r ps->∀ {j:Nat} {o:Oper},r[j]?=some o->mX P l n Rs a T J Eb brk (k+j) o (ps.getD j (λ_ _=>True))
 |[],_,_,_,_,_,h=>by simp at h
 |_::_,[],_,h,_,_,_=>h.elim
 |x::r,p::ps,k,h,0,o,hj=>by
  simp at hj
  subst hj;exact h.1
 |x::r,p::ps,k,h,j+1,o,hj=>by
  have:=iW.at h.2 (j:=j) (o:=o) (by simpa using hj)
  rw[show k+1+j=k+(j+1)by omega]at this
  simpa using this
theorem iW.nil{i:Nat}{ps:List vV}:iW P l n Rs a T J Eb brk i [] ps:=by cases ps<;>trivial
theorem iW.cons{i:Nat}{o:Oper}{r:List Oper}{p:vV}{ps:List vV}(h:mX P l n Rs a T J Eb brk i o p)(h':iW P l n Rs a T J Eb brk (i+1) r ps):iW P l n Rs a T J Eb brk i (o::r) (p::ps):=⟨h,h'⟩
end
theorem jcM(n:Nat)(T J:World->Prop)(Eb:World->World->Prop)(brk:Nat)(Rs:List vV)(hB:G5 l n=true)(hn:Rs.length=n)(hsz:((l.take n).filterMap (·.dst)).all (λd=>decide (d<a.tmps.size))=true)
  (hT1:∀w1 w2,T w1->Below w1.heap.size w1 w2->T w2) (hT2:∀w1 w2,T w1->Eb w1 w2->T w2) (hJ:∀w1 w2,J w1->Below w1.heap.size w1 w2->J w2) (hT0:T w.drew) (hJ0:J w.drew)
  (hops:iW P l n Rs a T J Eb brk 0 (l.take n) Rs) (hend:∀f w',T w'->TA Rs f w'->wpList P l.toArray Q (l.drop n) (kG a (l.take n) f) w'):wpAny P .any l.toArray Q l.toArray.size (Array.replicate l.toArray.size false) a w.drew:=by
 have hle:n<=l.length:=by
  have:=hB;simp only[G5,bG,fV,bD]at this
  rcases this.1.1.1.1 with h|h<;>omega
 have hat:∀i,i<n->∃o,l[i]?=some o/\mX P l n Rs a T J Eb brk i o (atR Rs i):=λi hi=>by
  have hil:i<l.length:=by omega
  refine⟨l[i],by simp[hil],?_⟩
  have:=hops.at (j:=i) (o:=l[i]) (by rw[gJ];simp[hi,hil])
  rwa [eY]at this
 have NV:∀i g w,¬i<n->atR Rs i g w:=λi g w hi=>by
  unfold atR;rw[dU,kZ (by omega)]
  trivial
 have yg:∀i g g' w,(∀j o d,JD l j i->l[j]?=some o->o.dst=some d->g d=g' d)->atR Rs i g w->atR Rs i g' w:=λi g g' w1 he h=>by
  by_cases hi:i<n
  ·obtain⟨o,_,_,_,h2,_⟩:=hat i hi;exact h2 g g' w1 he h
  ·exact NV i g' w1 hi
 refine jlG n T J Eb brk (atR Rs) hB hT1 hT2 hJ hT0 hJ0 (λi g w1 w2 h hb=>?_) (λi g w1 w2 hne h hb=>?_) yg (λi o hi ho=>?_) (λf w' hb hR=>hend f w' hb (TA.of λi hi=>hR i (by omega)))
 ·by_cases hi:i<n
  ·obtain⟨o,_,h1,_⟩:=hat i hi;exact h1 g w1 w2 h hb
  ·exact NV i g w2 hi
 ·by_cases hi:i<n
  ·obtain⟨o,_,_,h1,_⟩:=hat i hi;exact h1 hne g w1 w2 h hb
  ·exact NV i g w2 hi
 ·obtain⟨o',ho',_,_,_,h3⟩:=hat i hi;rw[ho]at ho'
  injection ho' with ho'
  subst ho';exact RZ.of hi hB hsz yg h3
theorem Fa(n:Nat)(T J:World->Prop)(Eb:World->World->Prop)(brk:Nat)(Rs:List vV){id:Nat}(hm:P.follows .mixedOrders=true)(hB:G5 l n=true)(hn:Rs.length=n)(hsz:((l.take n).filterMap (·.dst)).all (λd=>decide (d<a.tmps.size))=true)
  (hT1:∀w1 w2,T w1->Below w1.heap.size w1 w2->T w2) (hT2:∀w1 w2,T w1->Eb w1 w2->T w2) (hJ:∀w1 w2,J w1->Below w1.heap.size w1 w2->J w2) (hT0:T w.drew) (hJ0:J w.drew)
  (hops:iW P l n Rs a T J Eb brk 0 (l.take n) Rs) (hend:∀f w',T w'->TA Rs f w'->wpList P l.toArray Q (l.drop n) (kG a (l.take n) f) w'):(Code.region id l.toArray true).wp P Q a w:=
 zh hm (jcM n T J Eb brk Rs hB hn hsz hT1 hT2 hJ hT0 hJ0 hops hend)
section
variable {Rs:List vV} {T J:World→Prop} {Eb:World→World→Prop} {brk:Nat}
theorem mX.val{i d:Nat}{o:Oper}{c:Value}(hi:l[i]?=some o)(ho:o.dst=some d)(hne:i≠brk)
  (h:∀g w',T w'->(∀d,((l.take n).filterMap (·.dst)).contains d=false->g d=a.tmps.getD d undef)->Iz n (atR Rs) g w' o->(execOp (UZ g) o).run P w'=.ok (.value c) w'):
  mX P l n Rs a T J Eb brk i o (λg _=>g d=c):=by
 refine⟨λ_ _ _ h _=>h,λ_ _ _ _ h _=>h,λg g' _ he h=>(he i o d (JD.self i) hi ho).symm.trans h,λg w' hb _ hout hd=>?_⟩
 unfold iT;rw[h g w' hb hout hd];refine⟨?_,.inl ⟨hne,aj _ _⟩⟩
 rw[ho];unfold qI upd;simp
theorem mX.one{i d:Nat}{o:Oper}{p:Value->World->Prop}(hi:l[i]?=some o)(ho:o.dst=some d)(hne:i≠brk)(hst:∀v w1 w2,p v w1->Below w1.heap.size w1 w2->p v w2)(hst2:∀v w1 w2,p v w1->Eb w1 w2->p v w2)
  (h:∀g w',T w'->(∀d,((l.take n).filterMap (·.dst)).contains d=false->g d=a.tmps.getD d undef)->Iz n (atR Rs) g w' o->iT P o (UZ g) w' λv w''=>p v w''/\Below w'.heap.size w' w''):
  mX P l n Rs a T J Eb brk i o (λg w=>p (g d) w):=by
 refine⟨λg w1 w2 h hb=>hst _ _ _ h hb,λ_ g w1 w2 h hb=>hst2 _ _ _ h hb,λg g' w1 he h=>?_,λg w' hb _ hout hd=>?_⟩
 ·show p (g' d) w1;rw[<- he i o d (JD.self i) hi ho];exact h
 ·have h1:=h g w' hb hout hd;rw[ho];have e:∀v,qI g (some d) v d=v:=λv=>by unfold qI upd;simp
  simp only[e];exact iT.mono (λv w'' h=>⟨h.1,.inl ⟨hne,h.2⟩⟩) h1
end
end
end Wh
