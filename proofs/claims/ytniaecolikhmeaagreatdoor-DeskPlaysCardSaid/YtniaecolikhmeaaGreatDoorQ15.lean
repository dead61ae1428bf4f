/- Texts of the claim, joined. -/
import Derived.Test.YtniaecolikhmeaaGreatDoorQ14
set_option maxHeartbeats 20000000
set_option maxRecDepth 100000
set_option linter.all false
namespace Wh
open Go Go.RowKit Go.Shelf Go.Proofs Tryz
section
attribute [local go_sem] aV
theorem zC{p:dG}{s:aI}(h:oU p s=true->False):oU p s=false:=by
 cases hh:oU p s
 ·rfl
 ·exact(h hh).elim
theorem jcy(p:dG)(x:Line):(iO p x.dW=false/\ug p x=false)\/(iO p x.dW=true/\dM x.jk 1 200=false/\ug p x=false)\/(iO p x.dW=true/\dM x.jk 1 200=true/\dM x.qI 0 x.jk=false/\ug p x=false)\/
  (iO p x.dW=true/\dM x.jk 1 200=true/\dM x.qI 0 x.jk=true/\dM x.eU 0 x.jk=false/\ug p x=false)\/(iO p x.dW=true/\dM x.jk 1 200=true/\dM x.qI 0 x.jk=true/\dM x.eU 0 x.jk=true/\ug p x=true):=by
 unfold ug;cases iO p x.dW<;>cases dM x.jk 1 200<;>cases dM x.qI 0 x.jk<;>cases dM x.eU 0 x.jk<;>simp
theorem jcw(p:dG)(x:Move):(iO p x.dW=false/\sZ p x=false)\/(iO p x.dW=true/\lK p x.src=false/\sZ p x=false)\/(iO p x.dW=true/\lK p x.src=true/\lK p x.dst=false/\sZ p x=false)\/
  (iO p x.dW=true/\lK p x.src=true/\lK p x.dst=true/\(x.src==x.dst)=true/\sZ p x=false)\/(iO p x.dW=true/\lK p x.src=true/\lK p x.dst=true/\(x.src==x.dst)=false/\dM x.n 1 200=false/\sZ p x=false)\/
  (iO p x.dW=true/\lK p x.src=true/\lK p x.dst=true/\(x.src==x.dst)=false/\dM x.n 1 200=true/\sZ p x=true):=by
 unfold sZ;cases iO p x.dW<;>cases lK p x.src<;>cases lK p x.dst<;>cases dM x.n 1 200<;>by_cases h:x.src=x.dst<;>simp[h]
theorem jiY(p:dG){b:Int}(h0:0<=b):lK p b=decide (b<(p.dP.length:Int)):=by
 rw[uH,zA,dI];omega
theorem jbT(p:dG)(s:aI):s.jf.length≠p.aW.length/\oU p s=false\/s.jf.length=p.aW.length/\s.O.length≠p.aW.length/\oU p s=false\/s.jf.length=p.aW.length/\s.O.length=p.aW.length/\s.dB.length≠p.aW.length/\oU p s=false\/
  s.jf.length=p.aW.length/\s.O.length=p.aW.length/\s.dB.length=p.aW.length:=by
 have h:oU p s=true->s.jf.length=p.aW.length/\s.O.length=p.aW.length/\s.dB.length=p.aW.length:=λh=>by
  have h:=eG.1 h;exact⟨(qU.1 h.2.2.2.2.1).1,(qU.1 h.2.2.2.2.2.1).1,(qU.1 h.2.2.2.2.2.2).1⟩
 cases hf:oU p s
 ·simp only[ni];omega
 ·have:=h hf;omega
def QH(s:aI)(g:Nat):Bool:=dM (aZ s.jf g) 0 1048576&&dM (aZ s.O g) 0 1048576&&dM (aZ s.dB g) (-1048576) 1048576
theorem jdg(s:aI)(g:Nat):(dM (aZ s.jf g) 0 1048576=false/\QH s g=false)\/(dM (aZ s.jf g) 0 1048576=true/\dM (aZ s.O g) 0 1048576=false/\QH s g=false)\/(dM (aZ s.jf g) 0 1048576=true/\dM (aZ s.O g) 0 1048576=true/\dM (aZ s.dB g) (-1048576) 1048576=false/\QH s g=false)\/
  (dM (aZ s.jf g) 0 1048576=true/\dM (aZ s.O g) 0 1048576=true/\dM (aZ s.dB g) (-1048576) 1048576=true/\QH s g=true):=by
 unfold QH;cases dM (aZ s.jf g) 0 1048576<;>cases dM (aZ s.O g) 0 1048576<;>cases dM (aZ s.dB g) (-1048576) 1048576<;>simp
theorem jbi{p:dG}{s:aI}(h:oU p s=true){g:Nat}(hg:g<p.aW.length):QH s g=true:=by
 have h:=eG.1 h;obtain⟨i1,i2⟩:=qU.1 h.2.2.2.2.1;obtain⟨o1,o2⟩:=qU.1 h.2.2.2.2.2.1;obtain⟨f1,f2⟩:=qU.1 h.2.2.2.2.2.2;unfold QH;rw[dF,dF];exact⟨⟨vJ 0 i2 (by omega),vJ 0 o2 (by omega)⟩,vJ 0 f2 (by omega)⟩
theorem jhn{p:dG}{s:aI}(h1:s.ak.all (xJ p)=true)(h2:iI s.aA=true)(h3:s.aA.all (zy p s)=true)(h4:s.aF.all (sZ p)=true)(h5:s.jf.length=p.aW.length/\s.O.length=p.aW.length/\s.dB.length=p.aW.length)
  (h6:∀g,g<p.aW.length->QH s g=true):oU p s=true:=by
 have h:∀g,g<p.aW.length->dM (aZ s.jf g) 0 1048576=true/\dM (aZ s.O g) 0 1048576=true/\dM (aZ s.dB g) (-1048576) 1048576=true:=λg hg=>by
  have:=h6 g hg;unfold QH at this
  rw[dF,dF]at this
  exact⟨this.1.1,this.1.2,this.2⟩
 exact eG.2 ⟨h1,h2,h3,h4,qU.2 ⟨h5.1,ET 0 λg hg=>(h g (by omega)).1⟩,qU.2 ⟨h5.2.1,ET 0 λg hg=>(h g (by omega)).2.1⟩,qU.2 ⟨h5.2.2,ET 0 λg hg=>(h g (by omega)).2.2⟩⟩
theorem jlh(w:World)(v vs:Value)(p:dG)(s:aI)(hp:kK w w v p)(hv:kG w w vs s)(hz:fU p=0)(h4:s.ak.length<=4)(h8:s.aF.length<=8)(jjx:∀o,o<s.ak.length->(bK s.ak o).aH.length<=1000):
  Calls prog 165 #[v,vs] w λe w'=>e=.returned (.bool (oU p s))/\Below w w w':=by
 have hP:=hp;obtain⟨_,_,rfl,⟨Ab,cb,rfl,hlb,hb⟩,⟨As,cs,rfl,hls,hs⟩⟩:=hp;have hS:=hv;obtain⟨_,_,_,_,_,_,_,rfl,⟨A0,c0,vs0,rfl,hl0,hm0,ha0,hr0⟩,⟨A1,c1,vs1,rfl,hl1,hm1,ha1,hr1⟩,⟨A2,c2,rfl,hl2,ha2⟩,⟨A3,c3,rfl,hl3,ha3⟩,⟨A4,c4,rfl,hl4,ha4⟩,⟨A5,c5,rfl,hl5,ha5⟩,⟨A6,c6,rfl,Jb,ha6⟩⟩:=hv;have hcnt:=oI hz;have hb0:Below w w ((w.alloc (kD p Ab cb As cs)).alloc (kV s A0 c0 A1 c1 A2 c2 A3 c3 A4 c4 A5 c5 A6 c6)):=((aj _ _).alloc (ay _) _).alloc (by simp) _
 have kX:w.heap.size+1<((w.alloc (kD p Ab cb As cs)).alloc (kV s A0 c0 A1 c1 A2 c2 A3 c3 A4 c4 A5 c5 A6 c6)).heap.size:=by simp
 have hz0:(((w.alloc (kD p Ab cb As cs)).alloc (kV s A0 c0 A1 c1 A2 c2 A3 c3 A4 c4 A5 c5 A6 c6)).cell? w=some (.slice Ab p.dP.length cb)/\((w.alloc (kD p Ab cb As cs)).alloc (kV s A0 c0 A1 c1 A2 c2 A3 c3 A4 c4 A5 c5 A6 c6)).cell? ⟨w.heap.size,1,none⟩=some (.slice As p.aW.length cs))/\
   ((w.alloc (kD p Ab cb As cs)).alloc (kV s A0 c0 A1 c1 A2 c2 A3 c3 A4 c4 A5 c5 A6 c6)).cell? ⟨w.heap.size+1,1,none⟩=some (.slice A1 s.ak.length c1)/\((w.alloc (kD p Ab cb As cs)).alloc (kV s A0 c0 A1 c1 A2 c2 A3 c3 A4 c4 A5 c5 A6 c6)).cell? ⟨w.heap.size+1,2,none⟩=some (.slice A2 s.aA.length c2)/\((w.alloc (kD p Ab cb As cs)).alloc (kV s A0 c0 A1 c1 A2 c2 A3 c3 A4 c4 A5 c5 A6 c6)).cell? ⟨w.heap.size+1,3,none⟩=some (.slice A3 s.aF.length c3)/\
   ((w.alloc (kD p Ab cb As cs)).alloc (kV s A0 c0 A1 c1 A2 c2 A3 c3 A4 c4 A5 c5 A6 c6)).cell? ⟨w.heap.size+1,4,none⟩=some (.slice A4 s.jf.length c4)/\((w.alloc (kD p Ab cb As cs)).alloc (kV s A0 c0 A1 c1 A2 c2 A3 c3 A4 c4 A5 c5 A6 c6)).cell? ⟨w.heap.size+1,5,none⟩=some (.slice A5 s.O.length c5)/\((w.alloc (kD p Ab cb As cs)).alloc (kV s A0 c0 A1 c1 A2 c2 A3 c3 A4 c4 A5 c5 A6 c6)).cell? ⟨w.heap.size+1,6,none⟩=some (.slice A6 s.dB.length c6):=by simp
 have hO:=ah (λW (hW:Below w w W)=>(oW.up ⟨A1,c1,vs1,rfl,hl1,hm1,ha1,hr1⟩ hW hW.size:oW W W (.slice A1 s.ak.length c1) s.ak))
 have hH:=ah (λW (hW:Below w w W)=>(Sl.up ⟨A2,c2,rfl,hl2,ha2⟩ hW hW.size:Sl iD W W (.slice A2 s.aA.length c2) s.aA))
 have hM:=ah (λW (hW:Below w w W)=>(Sl.up ⟨A3,c3,rfl,hl3,ha3⟩ hW hW.size:Sl oC W W (.slice A3 s.aF.length c3) s.aF))
 have hI:=ah (λW (hW:Below w w W)=>(Sl.up ⟨A4,c4,rfl,hl4,ha4⟩ hW hW.size:Sl iW W W (.slice A4 s.jf.length c4) s.jf))
 have hU:=ah (λW (hW:Below w w W)=>(Sl.up ⟨A5,c5,rfl,hl5,ha5⟩ hW hW.size:Sl iW W W (.slice A5 s.O.length c5) s.O))
 have hX:=ah (λW (hW:Below w w W)=>(Sl.up ⟨A6,c6,rfl,Jb,ha6⟩ hW hW.size:Sl iW W W (.slice A6 s.dB.length c6) s.dB))
 have hP':=ah (λW (hW:Below w w W)=>hP.up hW hW.size)
 have jhc:=ah jjx;clear hz jjx hP hS;go_enter func165,ntmps165
 go_wp2_with fail;generalize hW0:(w.alloc (kD p Ab cb As cs)).alloc (kV s A0 c0 A1 c1 A2 c2 A3 c3 A4 c4 A5 c5 A6 c6)=W0 at hb0 kX hz0 ⊢
 have hz0':=ah hz0;clear hW0 hz0;have um:w.heap.size<W0.heap.size:=by omega
 have hK:=ah (λW (hW:Below W0 W0 W)=>And.intro (And.intro ((hW.cell (p:=w) um).trans hz0'.O.1.1) ((hW.cell (p:=⟨w.heap.size,1,none⟩) um).trans hz0'.O.1.2))
  (And.intro ((hW.cell (p:=⟨w.heap.size+1,1,none⟩) kX).trans hz0'.O.2.1) (And.intro ((hW.cell (p:=⟨w.heap.size+1,2,none⟩) kX).trans hz0'.O.2.2.1) (And.intro ((hW.cell (p:=⟨w.heap.size+1,3,none⟩) kX).trans hz0'.O.2.2.2.1)
  (And.intro ((hW.cell (p:=⟨w.heap.size+1,4,none⟩) kX).trans hz0'.O.2.2.2.2.1) (And.intro ((hW.cell (p:=⟨w.heap.size+1,5,none⟩) kX).trans hz0'.O.2.2.2.2.2.1) ((hW.cell (p:=⟨w.heap.size+1,6,none⟩) kX).trans hz0'.O.2.2.2.2.2.2)))))))
 go_loopw[5,6,7] (λi _ _ wr=>∃k:Nat,k<=s.ak.length/\i=.int .i64 k/\(∀j,j<k->xJ p (bK s.ak j)=true)/\Below W0.heap.size W0 wr) (λi _ _ _=>s.ak.length - (RowKit.intOf i).toNat)
 case atStart=>exact⟨0,aN _,rfl,λj hj=>by omega,aj _ _⟩
 case round=>
  obtain⟨k,hk,rfl,kQ,hbw⟩:=hrel;have hall':=ah kQ;clear kQ;have hB:=fD hb0 hbw;obtain⟨⟨y0,y1⟩,x1,x2,x3,x4,x5,x6⟩:=hK.O wr hbw;have fB:w.heap.size+1<wr.heap.size:=aJ kX hbw.size;by_cases hlt:k<s.ak.length
  ·obtain⟨A',c',I8,Gv,d0,d1,hsl⟩:=(hO.O wr hB).aC hlt;have hl33:=jhc.O k hlt;cases hki:dM (bK s.ak k).eH 0 2
   ·have dw:=ah (show oU p s=false from zC λh=>by
     have:=vJ Ig (eG.1 h).1 hlt;change xJ p (bK s.ak k)=true at this
     unfold xJ at this
     rw[hki]at this;cases this)
    go_wp2_with (go_at_call 43;refine(oz _ _ _ _).mono ?_;rintro e w' ⟨rfl,rfl⟩)
    go_ret
    exact⟨gK (by rw[dw.O]),hB⟩
   ·have juz:=ah hki;go_wp2_with (go_at_call 43;refine(oz _ _ _ _).mono ?_;rintro e w' ⟨rfl,rfl⟩)
    go_loopw[6,7] (λi _ wr=>∃m:Nat,m<=(bK s.ak k).aH.length/\i=.int .i64 m/\(∀j,j<m->ug p (fG (bK s.ak k).aH j)=true)/\Below W0.heap.size W0 wr) (λi _ _=>(bK s.ak k).aH.length - (RowKit.intOf i).toNat)
    case atStart=>exact⟨0,aN _,rfl,λj hj=>by omega,hbw⟩
    case round=>
     clear hbw hB y0 y1 x1 x2 x3 x4 x5 x6 fB I8 Gv d0 d1 hsl;obtain⟨m,hm,rfl,zW,hbw⟩:=hrel;have pR:=ah zW;clear zW;have hB:=fD hb0 hbw;obtain⟨⟨y0,y1⟩,x1,x2,x3,x4,x5,x6⟩:=hK.O wr hbw;have fB:w.heap.size+1<wr.heap.size:=aJ kX hbw.size;have fC:w.heap.size<wr.heap.size:=by omega
     obtain⟨A',c',I8,Gv,d0,d1,hsl⟩:=(hO.O wr hB).aC hlt;by_cases hml:m<(bK s.ak k).aH.length
     ·obtain⟨hok2,Qs,e0,e1,e2,e3⟩:=hsl.at_.aK hml;have hba:Below W0 W0 (wr.alloc (xZ (fG (bK s.ak k).aH m))):=hbw.alloc hbw.size _;have hBa:=fD hb0 hba;rcases jcy p (fG (bK s.ak k).aH m)with⟨g1,hf⟩|⟨g1,g2,hf⟩|⟨g1,g2,g3,hf⟩|⟨g1,g2,g3,g4,hf⟩|⟨g1,g2,g3,g4,hf⟩
      rotate_left 4
      focus
       have hf':=ah hf;clear hf;go_wp2_with (first|(go_at_call 43;refine(oz _ _ _ _).mono ?_;rintro e w' ⟨rfl,rfl⟩)|(go_at_call 115;refine(Fe _ _ p _ (hP'.O _ hBa) (by omega)).mono ?_;rintro e W1 ⟨rfl,hb1⟩;obtain⟨hc1,hf1⟩:=yt hb1;have hz1:=hb1.size))
       go_roundw
       case rel=>
        refine⟨m+1,by omega,by go_num,λj hj=>?_,fD hba hb1⟩
        rcases bf.1 hj with h|rfl
        ·exact pR.O j h
        ·exact hf'.O
       case measure=>simp[dY];omega
      all_goals
       have dw:=ah (show oU p s=false from zC λh=>by
        have h1:=vJ Ig (eG.1 h).1 hlt;have h2:ug p (fG (bK s.ak k).aH m)=true:=vJ IU (FQ.1 h1).2 hml;rw[hf]at h2;cases h2)
       clear hf;go_wp2_with (first|(go_at_call 43;refine(oz _ _ _ _).mono ?_;rintro e w' ⟨rfl,rfl⟩)|(go_at_call 115;refine(Fe _ _ p _ (hP'.O _ hBa) (by omega)).mono ?_;rintro e W1 ⟨rfl,hb1⟩;obtain⟨hc1,hf1⟩:=yt hb1;have hz1:=hb1.size))
       go_ret
       exact⟨gK (by rw[dw.O]),fD hBa hb1⟩
     ·obtain rfl:m=(bK s.ak k).aH.length:=by omega
      go_wp2_with fail;go_roundw
      case rel=>
       refine⟨k+1,by omega,by go_num,λj hj=>?_,hbw⟩
       rcases bf.1 hj with h|rfl
       ·exact hall'.O j h
       ·exact FQ.2 ⟨dZ.1 juz.O,ET IU pR.O⟩
      case measure=>simp[dY];omega
  ·obtain rfl:k=s.ak.length:=by omega
   have hord:=ah (ET Ig hall'.O);clear hall';go_wp2_with fail;refine(jcc _ _ s.aA (hH.O wr hB)).mono ?_
   rintro e W1 ⟨rfl,hb1⟩;have hba:=fD hbw hb1;have hBa:=fD hb0 hba;clear y0 y1 x1 x2 x3 x4 x5 x6 fB;obtain⟨⟨y0,y1⟩,x1,x2,x3,x4,x5,x6⟩:=hK.O W1 hba;cases hok:iI s.aA
   ·have hc:lV s.aA=1:=by unfold lV;rw[hok];rfl
    have dw:=ah (show oU p s=false from zC λh=>by
     have:=(eG.1 h).2.1;rw[hok]at this;cases this)
    rw[hc];clear hc hok;go_wp2_with fail;go_ret
    exact⟨gK (by rw[dw.O]),hBa⟩
   have hc:lV s.aA=0:=by unfold lV;rw[hok];rfl
   have Ug:=qH hok;have hok':=ah hok;rw[hc];clear hc hok;go_wp2_with fail;go_loopw[8,9] (λi _ wr=>∃m:Nat,m<=s.aA.length/\i=.int .i64 m/\(∀j,j<m->zy p s (hold s.aA j)=true)/\Below W0.heap.size W0 wr) (λi _ _=>s.aA.length - (RowKit.intOf i).toNat)
   case atStart=>exact⟨0,aN _,rfl,λj hj=>by omega,hba⟩
   case round=>
    clear hbw hB y0 y1 x1 x2 x3 x4 x5 x6 hb1 hba hBa;obtain⟨m,hm,rfl,zW,hbw⟩:=hrel;have pR:=ah zW;clear zW;have hB:=fD hb0 hbw;obtain⟨⟨y0,y1⟩,x1,x2,x3,x4,x5,x6⟩:=hK.O wr hbw;have fB:w.heap.size+1<wr.heap.size:=aJ kX hbw.size;have fC:w.heap.size<wr.heap.size:=by omega
    by_cases hml:m<s.aA.length
    ·obtain⟨hok2,Qs,e0,e1,e2,e3⟩:=(hH.O wr hB).at_.hold hml;have yg:=I5 hok'.O hml;have hba:Below W0 W0 (wr.alloc (nC (hold s.aA m))):=hbw.alloc hbw.size _;have hBa:=fD hb0 hba;have hlW:wr.heap.size<(wr.alloc (nC (hold s.aA m))).heap.size:=by simp
     have q0:=λo d os=>cZ (w:=wr.alloc (nC (hold s.aA m))) (b:=w.heap.size) (by simp;omega) o d os
     have q1:=λo d os=>cZ (w:=wr.alloc (nC (hold s.aA m))) (b:=w.heap.size+1) (by simp;omega) o d os
     have q2:=λo d os=>cZ (w:=wr.alloc (nC (hold s.aA m))) (b:=wr.heap.size) hlW o d os
     unfold sJ at yg
     obtain⟨⟨k1,k2⟩,⟨k3,k4⟩,⟨k5,k6⟩⟩:=yg;have jc4:=jiY p k5;have hP2:=ah (λd os=>hP'.O _ (hBa.trans ((kH (wr.alloc (nC (hold s.aA m))) d os).mono hBa.size)))
     rcases Tc p s (hold s.aA m)with⟨g1,hf⟩|⟨g1,g2,hf⟩|⟨g1,g2,g3,hf⟩|⟨g1,g2,g3,hf⟩
     ·have d1:decide ((hold s.aA m).aC<(s.ak.length:Int))=false:=by simpa using g1
      have d1':decide ((s.ak.length:Int)<=(hold s.aA m).aC)=true:=by simpa using g1
      have dw:=ah (show oU p s=false from zC λh=>by
       have h2:zy p s (hold s.aA m)=true:=vJ Pn (eG.1 h).2.2.1 hml;rw[hf]at h2;cases h2)
      clear hf jc4;go_wp2_with fail;refine dO (by kernel_rfl) (by kernel_rfl) ?_
      repeat(go_big_quiet_step ((go_at_call 80;refine fV (DX _ _ p _ (hP2.O _ _) (by omega)))))
      refine wpQuiet_nil ?_
      intro W2 hw';have hb2:=dN hw';clear hw';go_wp2_with fail;go_ret
      exact⟨gK (by rw[dw.O]),fD hBa hb2⟩
     ·have hol:(hold s.aA m).aC.toNat<s.ak.length:=by omega
      obtain⟨A',c',I8,Gv,d0,d1,hsl⟩:=(hO.O wr hB).aC hol;have hll:=jhc.O _ hol;have q3:=λo d os=>cZ (w:=wr.alloc (nC (hold s.aA m))) (b:=iH A1) (by simp;omega) o d os
      unfold aI.aC at g2
      have d1:decide ((hold s.aA m).aC<(s.ak.length:Int))=true:=by simpa using g1
      have d1':decide ((s.ak.length:Int)<=(hold s.aA m).aC)=false:=by simpa using g1
      have d2:decide ((hold s.aA m).aK<((bK s.ak (hold s.aA m).aC.toNat).aH.length:Int))=false:=by simpa using g2
      have d2':decide (((bK s.ak (hold s.aA m).aC.toNat).aH.length:Int)<=(hold s.aA m).aK)=true:=by simpa using g2
      have dw:=ah (show oU p s=false from zC λh=>by
       have h2:zy p s (hold s.aA m)=true:=vJ Pn (eG.1 h).2.2.1 hml;rw[hf]at h2;cases h2)
      clear hf jc4;go_wp2_with fail;refine dO (by kernel_rfl) (by kernel_rfl) ?_
      repeat(go_big_quiet_step ((go_at_call 80;refine fV (DX _ _ p _ (hP2.O _ _) (by omega)))))
      refine wpQuiet_nil ?_
      intro W2 hw';have hb2:=dN hw';clear hw';go_wp2_with fail;go_ret
      exact⟨gK (by rw[dw.O]),fD hBa hb2⟩
     ·have hol:(hold s.aA m).aC.toNat<s.ak.length:=by omega
      obtain⟨A',c',I8,Gv,d0,d1,hsl⟩:=(hO.O wr hB).aC hol;have hll:=jhc.O _ hol;have q3:=λo d os=>cZ (w:=wr.alloc (nC (hold s.aA m))) (b:=iH A1) (by simp;omega) o d os
      unfold aI.aC at g2
      have d1:decide ((hold s.aA m).aC<(s.ak.length:Int))=true:=by simpa using g1
      have d1':decide ((s.ak.length:Int)<=(hold s.aA m).aC)=false:=by simpa using g1
      have d2:decide ((hold s.aA m).aK<((bK s.ak (hold s.aA m).aC.toNat).aH.length:Int))=true:=by simpa using g2
      have d2':decide (((bK s.ak (hold s.aA m).aC.toNat).aH.length:Int)<=(hold s.aA m).aK)=false:=by simpa using g2
      have jsj:lK p (hold s.aA m).bin=false:=by rw[jc4];simpa using g3
      have dw:=ah (show oU p s=false from zC λh=>by
       have h2:zy p s (hold s.aA m)=true:=vJ Pn (eG.1 h).2.2.1 hml;rw[hf]at h2;cases h2)
      clear hf jc4;go_wp2_with fail;refine dO (by kernel_rfl) (by kernel_rfl) ?_
      repeat(go_big_quiet_step ((go_at_call 80;refine fV (DX _ _ p _ (hP2.O _ _) (by omega)))))
      refine wpQuiet_nil ?_
      intro W2 hw';have hb2:=dN hw';clear hw';go_wp2_with fail;go_ret
      exact⟨gK (by rw[dw.O]),fD hBa hb2⟩
     ·have hol:(hold s.aA m).aC.toNat<s.ak.length:=by omega
      obtain⟨A',c',I8,Gv,d0,d1,hsl⟩:=(hO.O wr hB).aC hol;have hll:=jhc.O _ hol;have q3:=λo d os=>cZ (w:=wr.alloc (nC (hold s.aA m))) (b:=iH A1) (by simp;omega) o d os
      unfold aI.aC at g2
      have d1:decide ((hold s.aA m).aC<(s.ak.length:Int))=true:=by simpa using g1
      have d1':decide ((s.ak.length:Int)<=(hold s.aA m).aC)=false:=by simpa using g1
      have d2:decide ((hold s.aA m).aK<((bK s.ak (hold s.aA m).aC.toNat).aH.length:Int))=true:=by simpa using g2
      have d2':decide (((bK s.ak (hold s.aA m).aC.toNat).aH.length:Int)<=(hold s.aA m).aK)=false:=by simpa using g2
      have jsj:lK p (hold s.aA m).bin=true:=by rw[jc4];simpa using g3
      have hf':=ah hf;clear hf jc4;go_wp2_with fail;refine dO (by kernel_rfl) (by kernel_rfl) ?_
      repeat(go_big_quiet_step ((go_at_call 80;refine fV (DX _ _ p _ (hP2.O _ _) (by omega)))))
      refine wpQuiet_nil ?_
      intro W2 hw';have hb2:=dN hw';clear hw';go_wp2_with fail;go_roundw
      case rel=>
       refine⟨m+1,by omega,by go_num,λj hj=>?_,fD hba hb2⟩
       rcases bf.1 hj with h|rfl
       ·exact pR.O j h
       ·exact hf'.O
      case measure=>simp[dY];omega
    ·obtain rfl:m=s.aA.length:=by omega
     have juF:=ah (ET Pn pR.O);clear pR;go_wp2_with fail;go_loopw[10,11] (λi _ wr=>∃m:Nat,m<=s.aF.length/\i=.int .i64 m/\(∀j,j<m->sZ p (bZ s.aF j)=true)/\Below W0.heap.size W0 wr) (λi _ _=>s.aF.length - (RowKit.intOf i).toNat)
     case atStart=>exact⟨0,aN _,rfl,λj hj=>by omega,hbw⟩
     case round=>
      clear hbw hB y0 y1 x1 x2 x3 x4 x5 x6 fB fC;obtain⟨m,hm,rfl,zW,hbw⟩:=hrel;have pR:=ah zW;clear zW;have hB:=fD hb0 hbw;obtain⟨⟨y0,y1⟩,x1,x2,x3,x4,x5,x6⟩:=hK.O wr hbw;have fB:w.heap.size+1<wr.heap.size:=aJ kX hbw.size;have fC:w.heap.size<wr.heap.size:=by omega
      by_cases hml:m<s.aF.length
      ·obtain⟨hok2,Qs,e0,e1,e2,e3⟩:=(hM.O wr hB).at_.move hml;have hba:Below W0 W0 (wr.alloc (IE (bZ s.aF m))):=hbw.alloc hbw.size _;have hBa:=fD hb0 hba;have hlW:wr.heap.size<(wr.alloc (IE (bZ s.aF m))).heap.size:=by simp
       rcases jcw p (bZ s.aF m)with⟨g1,hf⟩|⟨g1,g2,hf⟩|⟨g1,g2,g3,hf⟩|⟨g1,g2,g3,g4,hf⟩|⟨g1,g2,g3,g4,g5,hf⟩|⟨g1,g2,g3,g4,g5,hf⟩
       rotate_left 5
       focus
        have hf':=ah hf;clear hf;go_wp2_with fail;refine(Fe _ _ p _ (hP'.O _ hBa) (by omega)).mono ?_
        rintro e W1 ⟨rfl,hb1⟩;obtain⟨uc1,uf1⟩:=yt hb1;have hs1:=hb1.size;have ht1:w.heap.size<W1.heap.size:=by omega
        have ht1':wr.heap.size<W1.heap.size:=by omega
        have hBb:=fD hBa hb1;go_wp2_with fail;refine(DX _ _ p _ (hP'.O _ hBb) (by omega)).mono ?_
        rintro e W2 ⟨rfl,hb2⟩;obtain⟨uc2,uf2⟩:=yt hb2;have hs2:=hb2.size;have ht2:w.heap.size<W2.heap.size:=by omega
        have jlN:wr.heap.size<W2.heap.size:=by omega
        have hBc:=fD hBb hb2;go_wp2_with fail;refine(DX _ _ p _ (hP'.O _ hBc) (by omega)).mono ?_
        rintro e W3 ⟨rfl,hb3⟩;obtain⟨uc3,uf3⟩:=yt hb3;have hs3:=hb3.size;have ht3:w.heap.size<W3.heap.size:=by omega
        have jod:wr.heap.size<W3.heap.size:=by omega
        go_wp2_with (go_at_call 43;refine(oz _ _ _ _).mono ?_;rintro e w' ⟨rfl,rfl⟩)
        go_roundw
        case rel=>
         refine⟨m+1,by omega,by go_num,λj hj=>?_,(fD hba hb1).trans ((fD hb2 hb3).mono (fD hba hb1).size)⟩
         rcases bf.1 hj with h|rfl
         ·exact pR.O j h
         ·exact hf'.O
        case measure=>simp[dY];omega
       ·have dw:=ah (show oU p s=false from zC λh=>by
         have h2:sZ p (bZ s.aF m)=true:=vJ Kv (eG.1 h).2.2.2.1 hml;rw[hf]at h2;cases h2)
        clear hf;go_wp2_with fail;refine(Fe _ _ p _ (hP'.O _ hBa) (by omega)).mono ?_
        rintro e W1 ⟨rfl,hb1⟩;obtain⟨uc1,uf1⟩:=yt hb1;have hs1:=hb1.size;have ht1:w.heap.size<W1.heap.size:=by omega
        have ht1':wr.heap.size<W1.heap.size:=by omega
        have hBb:=fD hBa hb1;go_wp2_with fail;go_ret
        exact⟨gK (by rw[dw.O]),hBb⟩
       ·have dw:=ah (show oU p s=false from zC λh=>by
         have h2:sZ p (bZ s.aF m)=true:=vJ Kv (eG.1 h).2.2.2.1 hml;rw[hf]at h2;cases h2)
        clear hf;go_wp2_with fail;refine(Fe _ _ p _ (hP'.O _ hBa) (by omega)).mono ?_
        rintro e W1 ⟨rfl,hb1⟩;obtain⟨uc1,uf1⟩:=yt hb1;have hs1:=hb1.size;have ht1:w.heap.size<W1.heap.size:=by omega
        have ht1':wr.heap.size<W1.heap.size:=by omega
        have hBb:=fD hBa hb1;go_wp2_with fail;refine(DX _ _ p _ (hP'.O _ hBb) (by omega)).mono ?_
        rintro e W2 ⟨rfl,hb2⟩;obtain⟨uc2,uf2⟩:=yt hb2;have hs2:=hb2.size;have ht2:w.heap.size<W2.heap.size:=by omega
        have jlN:wr.heap.size<W2.heap.size:=by omega
        have hBc:=fD hBb hb2;go_wp2_with fail;go_ret
        exact⟨gK (by rw[dw.O]),hBc⟩
       ·have dw:=ah (show oU p s=false from zC λh=>by
         have h2:sZ p (bZ s.aF m)=true:=vJ Kv (eG.1 h).2.2.2.1 hml;rw[hf]at h2;cases h2)
        clear hf;go_wp2_with fail;refine(Fe _ _ p _ (hP'.O _ hBa) (by omega)).mono ?_
        rintro e W1 ⟨rfl,hb1⟩;obtain⟨uc1,uf1⟩:=yt hb1;have hs1:=hb1.size;have ht1:w.heap.size<W1.heap.size:=by omega
        have ht1':wr.heap.size<W1.heap.size:=by omega
        have hBb:=fD hBa hb1;go_wp2_with fail;refine(DX _ _ p _ (hP'.O _ hBb) (by omega)).mono ?_
        rintro e W2 ⟨rfl,hb2⟩;obtain⟨uc2,uf2⟩:=yt hb2;have hs2:=hb2.size;have ht2:w.heap.size<W2.heap.size:=by omega
        have jlN:wr.heap.size<W2.heap.size:=by omega
        have hBc:=fD hBb hb2;go_wp2_with fail;refine(DX _ _ p _ (hP'.O _ hBc) (by omega)).mono ?_
        rintro e W3 ⟨rfl,hb3⟩;obtain⟨uc3,uf3⟩:=yt hb3;have hs3:=hb3.size;have ht3:w.heap.size<W3.heap.size:=by omega
        have jod:wr.heap.size<W3.heap.size:=by omega
        have hBd:=fD hBc hb3;go_wp2_with fail;go_ret
        exact⟨gK (by rw[dw.O]),hBd⟩
       ·have dw:=ah (show oU p s=false from zC λh=>by
         have h2:sZ p (bZ s.aF m)=true:=vJ Kv (eG.1 h).2.2.2.1 hml;rw[hf]at h2;cases h2)
        clear hf;go_wp2_with fail;refine(Fe _ _ p _ (hP'.O _ hBa) (by omega)).mono ?_
        rintro e W1 ⟨rfl,hb1⟩;obtain⟨uc1,uf1⟩:=yt hb1;have hs1:=hb1.size;have ht1:w.heap.size<W1.heap.size:=by omega
        have ht1':wr.heap.size<W1.heap.size:=by omega
        have hBb:=fD hBa hb1;go_wp2_with fail;refine(DX _ _ p _ (hP'.O _ hBb) (by omega)).mono ?_
        rintro e W2 ⟨rfl,hb2⟩;obtain⟨uc2,uf2⟩:=yt hb2;have hs2:=hb2.size;have ht2:w.heap.size<W2.heap.size:=by omega
        have jlN:wr.heap.size<W2.heap.size:=by omega
        have hBc:=fD hBb hb2;go_wp2_with fail;refine(DX _ _ p _ (hP'.O _ hBc) (by omega)).mono ?_
        rintro e W3 ⟨rfl,hb3⟩;obtain⟨uc3,uf3⟩:=yt hb3;have hs3:=hb3.size;have ht3:w.heap.size<W3.heap.size:=by omega
        have jod:wr.heap.size<W3.heap.size:=by omega
        have hBd:=fD hBc hb3;go_wp2_with fail;go_ret
        exact⟨gK (by rw[dw.O]),hBd⟩
       ·have dw:=ah (show oU p s=false from zC λh=>by
         have h2:sZ p (bZ s.aF m)=true:=vJ Kv (eG.1 h).2.2.2.1 hml;rw[hf]at h2;cases h2)
        clear hf;go_wp2_with fail;refine(Fe _ _ p _ (hP'.O _ hBa) (by omega)).mono ?_
        rintro e W1 ⟨rfl,hb1⟩;obtain⟨uc1,uf1⟩:=yt hb1;have hs1:=hb1.size;have ht1:w.heap.size<W1.heap.size:=by omega
        have ht1':wr.heap.size<W1.heap.size:=by omega
        have hBb:=fD hBa hb1;go_wp2_with fail;refine(DX _ _ p _ (hP'.O _ hBb) (by omega)).mono ?_
        rintro e W2 ⟨rfl,hb2⟩;obtain⟨uc2,uf2⟩:=yt hb2;have hs2:=hb2.size;have ht2:w.heap.size<W2.heap.size:=by omega
        have jlN:wr.heap.size<W2.heap.size:=by omega
        have hBc:=fD hBb hb2;go_wp2_with fail;refine(DX _ _ p _ (hP'.O _ hBc) (by omega)).mono ?_
        rintro e W3 ⟨rfl,hb3⟩;obtain⟨uc3,uf3⟩:=yt hb3;have hs3:=hb3.size;have ht3:w.heap.size<W3.heap.size:=by omega
        have jod:wr.heap.size<W3.heap.size:=by omega
        have hBd:=fD hBc hb3;go_wp2_with (go_at_call 43;refine(oz _ _ _ _).mono ?_;rintro e w' ⟨rfl,rfl⟩)
        go_ret
        exact⟨gK (by rw[dw.O]),hBd⟩
      ·obtain rfl:m=s.aF.length:=by omega
       have hmv:=ah (ET Kv pR.O);clear pR;obtain⟨aA0,aA1⟩:=And.intro hlb hls;rcases jbT p s with⟨g1,hf⟩|⟨g1,g2,hf⟩|⟨g1,g2,g3,hf⟩|⟨g1,g2,g3⟩
       ·have hn1:((s.jf.length:Int)==(p.aW.length:Int))=false:=by simp;omega
        have hm1:((s.jf.length:Int)!=(p.aW.length:Int))=true:=by simp;omega
        have dw:=ah hf;clear hf g1;go_wp2_with fail;go_ret
        exact⟨gK (by rw[dw.O]),hB⟩
       ·have hn1:((s.jf.length:Int)==(p.aW.length:Int))=true:=by simp;omega
        have hm1:((s.jf.length:Int)!=(p.aW.length:Int))=false:=by simp;omega
        have hn2:((s.O.length:Int)==(p.aW.length:Int))=false:=by simp;omega
        have hm2:((s.O.length:Int)!=(p.aW.length:Int))=true:=by simp;omega
        have dw:=ah hf;clear hf g1 g2;go_wp2_with fail;go_ret
        exact⟨gK (by rw[dw.O]),hB⟩
       ·have hn1:((s.jf.length:Int)==(p.aW.length:Int))=true:=by simp;omega
        have hm1:((s.jf.length:Int)!=(p.aW.length:Int))=false:=by simp;omega
        have hn2:((s.O.length:Int)==(p.aW.length:Int))=true:=by simp;omega
        have hm2:((s.O.length:Int)!=(p.aW.length:Int))=false:=by simp;omega
        have hn3:((s.dB.length:Int)==(p.aW.length:Int))=false:=by simp;omega
        have hm3:((s.dB.length:Int)!=(p.aW.length:Int))=true:=by simp;omega
        have dw:=ah hf;clear hf g1 g2 g3;go_wp2_with fail;go_ret
        exact⟨gK (by rw[dw.O]),hB⟩
       ·have hn1:((s.jf.length:Int)==(p.aW.length:Int))=true:=by simp;omega
        have hm1:((s.jf.length:Int)!=(p.aW.length:Int))=false:=by simp;omega
        have hn2:((s.O.length:Int)==(p.aW.length:Int))=true:=by simp;omega
        have hm2:((s.O.length:Int)!=(p.aW.length:Int))=false:=by simp;omega
        have hn3:((s.dB.length:Int)==(p.aW.length:Int))=true:=by simp;omega
        have hm3:((s.dB.length:Int)!=(p.aW.length:Int))=false:=by simp;omega
        have hg1:=ah g1;have hg2:=ah g2;have hg3:=ah g3;clear g1 g2 g3;go_wp2_with fail;clear hn1 hn2 hn3 hm1 hm2 hm3;go_loopw[12] (λi wr=>∃m:Nat,m<=p.aW.length/\i=.int .i64 m/\(∀j,j<m->QH s j=true)/\Below W0.heap.size W0 wr) (λi _=>p.aW.length - (RowKit.intOf i).toNat)
        case atStart=>exact⟨0,aN _,rfl,λj hj=>by omega,hbw⟩
        case round=>
         clear hbw hB y0 y1 x1 x2 x3 x4 x5 x6 fB fC;obtain⟨m,hm,rfl,zW,hbw⟩:=hrel;have pR:=ah zW;clear zW;have hB:=fD hb0 hbw;obtain⟨⟨y0,y1⟩,x1,x2,x3,x4,x5,x6⟩:=hK.O wr hbw;have fB:w.heap.size+1<wr.heap.size:=aJ kX hbw.size;have fC:w.heap.size<wr.heap.size:=by omega
         by_cases hml:m<p.aW.length
         ·have hm4:m<s.jf.length:=by have:=hg1.O;omega
          have hm5:m<s.O.length:=by have:=hg2.O;omega
          have hm6:m<s.dB.length:=by have:=hg3.O;omega
          obtain⟨o4,l4,r4⟩:=(hI.O wr hB).at_.int hm4;obtain⟨o5,l5,r5⟩:=(hU.O wr hB).at_.int hm5;obtain⟨o6,l6,r6⟩:=(hX.O wr hB).at_.int hm6;rcases jdg s m with⟨g1,hf⟩|⟨g1,g2,hf⟩|⟨g1,g2,g3,hf⟩|⟨g1,g2,g3,hf⟩
          rotate_left 3
          focus
           have hf':=ah hf;clear hf;go_wp2_with (go_at_call 43;refine(oz _ _ _ _).mono ?_;rintro e w' ⟨rfl,rfl⟩)
           go_roundw
           case rel=>
            refine⟨m+1,by omega,by go_num,λj hj=>?_,hbw⟩
            rcases bf.1 hj with h|rfl
            ·exact pR.O j h
            ·exact hf'.O
           case measure=>simp[dY];omega
          all_goals
           have dw:=ah (show oU p s=false from zC λh=>by
            have h2:=jbi h hml;rw[hf]at h2;cases h2)
           clear hf;go_wp2_with (go_at_call 43;refine(oz _ _ _ _).mono ?_;rintro e w' ⟨rfl,rfl⟩)
           go_ret
           exact⟨gK (by rw[dw.O]),hB⟩
         ·obtain rfl:m=p.aW.length:=by omega
          have dw:=ah (jhn hord.O hok'.O juF.O hmv.O ⟨hg1.O,hg2.O,hg3.O⟩ pR.O);go_wp2_with fail;go_ret
          exact⟨gK (by rw[dw.O]),hB⟩
end
section
attribute [local go_sem] aV
theorem jnP(x:Line)(W:World):Calls prog 193 #[JQ x] W λe W'=>e=.returned (.bool (decide (x.qI<x.jk)))/\Below W W W':=by
 have hb0:Below W W (W.alloc (xZ x)):=(aj _ _).alloc (ay _) _;unfold JQ;go_enter func193,ntmps193
 go_wp2_with fail;go_ret
 exact⟨rfl,hb0⟩
theorem jds:Enters prog 193:=enters_of func193 (by kernel_rfl) rfl
theorem ZF(s:aI)(o k:Nat):
  (((s.aC o).eH==0)=true/\((s.aC o).eH==2)=false/\((s.aK o k).qI+(s.aK o k).eU+kept s.aA o k !=0)=true/\mO s o k=false)\/
  (((s.aC o).eH==0)=true/\((s.aC o).eH==2)=false/\((s.aK o k).qI+(s.aK o k).eU+kept s.aA o k !=0)=false/\mO s o k=true)\/
  (((s.aC o).eH==0)=false/\((s.aK o k).qI+(s.aK o k).eU+kept s.aA o k !=(s.aK o k).jk)=true/\mO s o k=false)\/
  (((s.aC o).eH==0)=false/\((s.aK o k).qI+(s.aK o k).eU+kept s.aA o k !=(s.aK o k).jk)=false/\((s.aC o).eH==2)=true/\decide (0<kept s.aA o k)=true/\mO s o k=false)\/
  (((s.aC o).eH==0)=false/\((s.aK o k).qI+(s.aK o k).eU+kept s.aA o k !=(s.aK o k).jk)=false/\((s.aC o).eH==2)=true/\decide (0<kept s.aA o k)=false/\mO s o k=true)\/
  (((s.aC o).eH==0)=false/\((s.aK o k).qI+(s.aK o k).eU+kept s.aA o k !=(s.aK o k).jk)=false/\((s.aC o).eH==2)=false/\mO s o k=true):=by
 unfold mO;by_cases h0:(s.aC o).eH=0
 ·by_cases h1:(s.aK o k).qI+(s.aK o k).eU+kept s.aA o k=0<;>simp[h0,h1]
 ·by_cases h1:(s.aK o k).qI+(s.aK o k).eU+kept s.aA o k=(s.aK o k).jk<;>by_cases h2:(s.aC o).eH=2<;>by_cases h3:0<kept s.aA o k<;>simp[h0,h1,h2,h3]
theorem SN{l:List eX}(h:iI l=true)(o ln:Int):N8 l o ln=(kept l o ln,0):=by unfold N8;rw[h];rfl
theorem jk6(w:World)(v vs:Value)(p:dG)(s:aI)(hp:kK w w v p)(hv:kG w w vs s)(hs:pz p s):
  Calls prog 141 #[v,vs] w λe w'=>e=.returned (.bool (Fv p s))/\Below w w w':=by
 have hcnt:=hs.counts;have h4:=hs.nX;have h72:=qH hs.aA;have zU:=ah hs;clear hs;obtain⟨Ab,cb,As,cs,rfl,hP',hBn,hSz,hlb,hls⟩:=o9 hp;obtain⟨A0,c0,A1,c1,A2,c2,A3,c3,A4,c4,A5,c5,A6,c6,rfl,hV,hN,hO,hH,hM,hI,hU,hX,hl0,hl1,hl2,hl3,hl4,hl5,Jb⟩:=lY hv;go_enter func141,ntmps141
 go_wp2_with fail;obtain⟨W0,hW0,hb0,kX,um,hsE,hK⟩:=uT w p s Ab cb As cs A0 c0 A1 c1 A2 c2 A3 c3 A4 c4 A5 c5 A6 c6;rw[hW0];clear hW0;obtain⟨⟨y0,y1⟩,x0,x1,x2,x3,x4,x5,x6,fB,fC⟩:=hK.O W0 (aj W0 W0);go_loopw[19,5,6,7,8] (λi _ _ _ _ wr=>∃k:Nat,k<=p.aW.length/\i=.int .i64 k/\(∀j,j<k->xR p s j=true)/\Below W0.heap.size W0 wr) (λi _ _ _ _ _=>p.aW.length - (RowKit.intOf i).toNat)
 case atStart=>exact⟨0,aN _,rfl,λj hj=>by omega,aj _ _⟩
 case round=>
  clear y0 y1 x0 x1 x2 x3 x4 x5 x6 fB fC;obtain⟨k,hk,rfl,kQ,hbw⟩:=hrel;have hall':=ah kQ;clear kQ;have hB:=fD hb0 hbw;obtain⟨⟨y0,y1⟩,x0,x1,x2,x3,x4,x5,x6,fB,fC⟩:=hK.O wr (hbw);by_cases hlt:k<p.aW.length
  ·have hI4:k<s.jf.length:=by rw[zU.O.jf.1];exact hlt
   have hI5:k<s.O.length:=by rw[zU.O.O.1];exact hlt
   have ZQ:k<s.dB.length:=by rw[zU.O.dB.1];exact hlt
   obtain⟨i1,i2⟩:=zU.O.jf.2 hlt;obtain⟨u1,u2⟩:=zU.O.O.2 hlt;obtain⟨f1,f2⟩:=zU.O.dB.2 hlt;have e0:qV p s.on 0 k=0:=NY.2 ⟨zU.O.shelf,zA.2 (by omega),wI.2 (by omega)⟩
   have hSE:=ah (jfM e0);clear e0;go_wp2_with fail;refine(jh7 _ _ _ p s.on k (hP'.O wr hB) (hN.O wr hB)).mono ?_
   rintro e W1 ⟨rfl,hb1⟩;rw[hSE.O];clear y0 y1 x0 x1 x2 x3 x4 x5 x6 fB fC;have uo:=fD hbw hb1;have hB1:=fD hb0 uo;obtain⟨⟨y0,y1⟩,x0,x1,x2,x3,x4,x5,x6,fB,fC⟩:=hK.O W1 (uo);obtain⟨o4,l4,r4⟩:=(hI.O W1 hB1).at_.int hI4;obtain⟨o5,l5,r5⟩:=(hU.O W1 hB1).at_.int hI5;obtain⟨o6,l6,r6⟩:=(hX.O W1 hB1).at_.int ZQ;have q1:=λo d os=>cZ (w:=W1) (b:=w.heap.size+1) fB o d os
   have q4:=λo d os=>cZ (w:=W1) (b:=iH A4) l4 o d os
   have q5:=λo d os=>cZ (w:=W1) (b:=iH A5) l5 o d os
   have q6:=λo d os=>cZ (w:=W1) (b:=iH A6) l6 o d os
   have hw1:IntKind.i64.wrap (aZ s.jf k - aZ s.O k)=aZ s.jf k - aZ s.O k:=aP _ (by omega)
   have hw2:IntKind.i64.wrap (aZ s.jf k - aZ s.O k+aZ s.dB k)=aZ s.jf k - aZ s.O k+aZ s.dB k:=aP _ (by omega)
   have SX:=ah hw1;have jn6:=ah hw2;clear hw1 hw2;by_cases hsum:Du s.on k=aZ s.jf k - aZ s.O k+aZ s.dB k
   ·have hne:(Du s.on k !=aZ s.jf k - aZ s.O k+aZ s.dB k)=false:=by simpa using hsum
    have jjc:=ah hsum;have hw1:=SX.O;have hw2:=jn6.O;clear hsum;go_wp2_with fail;refine dO (by kernel_rfl) (by kernel_rfl) ?_
    repeat(go_big_quiet_step (fail))
    refine wpQuiet_nil ?_
    intro W2 hw';have hb2:=dN hw';clear hw';clear q1 q4 q5 q6 hw1 hw2 hne;clear y0 y1 x0 x1 x2 x3 x4 x5 x6 fB fC;have hbw2:=fD uo hb2;have hB2:=fD hb0 hbw2;obtain⟨⟨y0,y1⟩,x0,x1,x2,x3,x4,x5,x6,fB,fC⟩:=hK.O W2 (hbw2);go_wp2_with fail;go_loopw[52,8] (λi _ wr=>∃m:Nat,m<=p.dP.length/\i=.int .i64 m/\(∀j,j<m->bound s j k<=cell s.on j k)/\Below W0.heap.size W0 wr) (λi _ _=>p.dP.length - (RowKit.intOf i).toNat)
    case atStart=>exact⟨0,aN _,rfl,λj hj=>by omega,hbw2⟩
    case round=>
     clear y0 y1 x0 x1 x2 x3 x4 x5 x6 fB fC;clear r4 r5 r6 hbw hb1 hB uo hB1 hb2 hbw2 hB2;obtain⟨m,hm,rfl,zW,hbw⟩:=hrel;have pR:=ah zW;clear zW;have hB:=fD hb0 hbw;obtain⟨⟨y0,y1⟩,x0,x1,x2,x3,x4,x5,x6,fB,fC⟩:=hK.O wr (hbw);by_cases hml:m<p.dP.length
     ·have hml':m<s.on.length:=by rw[zU.O.sO];exact hml
      have hkr:k<(fO s.on m).length:=by rw[zU.O.rowLen hml];exact hlt
      obtain⟨Ar,cr,or0,UN,Zp,wK⟩:=(hN.O wr hB).row hml';obtain⟨or1,lr1,RZ⟩:=wK.at_.int hkr;have q1:=λo d os=>cZ (w:=wr) (b:=w.heap.size+1) fB o d os
      have q2:=λo d os=>cZ (w:=wr) (b:=iH A0) UN o d os
      have q3:=λo d os=>cZ (w:=wr) (b:=iH Ar) lr1 o d os
      have hV2:=ah (λd os=>hV.O _ (hB.trans ((kH wr d os).mono hB.size)))
      have hcl:aZ (fO s.on m) k=cell s.on m k:=rfl;have hcl':=ah hcl;clear hcl;by_cases hbd:bound s m k<=cell s.on m k
      ·have hd:decide (aZ (fO s.on m) k<bound s m k)=false:=by rw[hcl'.O];simpa using hbd
       have jhi:=ah hbd;clear hbd;go_wp2_with fail;refine dO (by kernel_rfl) (by kernel_rfl) ?_
       repeat(go_big_quiet_step ((go_at_call 108;refine fV (jat _ _ p s _ _ (hV2.O _ _) zU.O))))
       refine wpQuiet_nil ?_
       intro W2 hw';have hb2:=dN hw';clear hw';clear q1 q2 q3;go_wp2_with fail;go_roundw
       case rel=>
        refine⟨m+1,by omega,by go_num,λj hj=>?_,fD hbw hb2⟩
        rcases bf.1 hj with h|rfl
        ·exact pR.O j h
        ·exact jhi.O
       case measure=>simp[dY];omega
      ·have hd:decide (aZ (fO s.on m) k<bound s m k)=true:=by rw[hcl'.O];simpa using hbd
       have dw:=ah (KR hlt (O6 hml (show cell s.on m k<bound s m k by omega)))
       clear hbd;go_wp2_with fail;refine dO (by kernel_rfl) (by kernel_rfl) ?_
       repeat(go_big_quiet_step ((go_at_call 108;refine fV (jat _ _ p s _ _ (hV2.O _ _) zU.O))))
       refine wpQuiet_nil ?_
       intro W2 hw';have hb2:=dN hw';clear hw';clear q1 q2 q3;go_wp2_with fail;go_ret
       exact⟨gK (by rw[dw.O]),fD hB hb2⟩
     ·obtain rfl:m=p.dP.length:=by omega
      go_wp2_with fail;go_roundw
      case rel=>
       refine⟨k+1,by omega,by go_num,λj hj=>?_,hbw⟩
       rcases bf.1 hj with h|rfl
       ·exact hall'.O j h
       ·exact yO.2 ⟨jjc.O,pR.O⟩
      case measure=>simp[dY];omega
   ·have hne:(Du s.on k !=aZ s.jf k - aZ s.O k+aZ s.dB k)=true:=by simpa using hsum
    have dw:=ah (KR hlt (O5 hsum));have hw1:=SX.O;have hw2:=jn6.O;clear hsum;go_wp2_with fail;refine dO (by kernel_rfl) (by kernel_rfl) ?_
    repeat(go_big_quiet_step (fail))
    refine wpQuiet_nil ?_
    intro W2 hw';have hb2:=dN hw';clear hw';clear q1 q4 q5 q6 hw1 hw2 hne;go_wp2_with fail;go_ret
    exact⟨gK (by rw[dw.O]),fD hB1 hb2⟩
  ·obtain rfl:k=p.aW.length:=by omega
   go_wp2_with fail;go_loopw[73,9,10,11,12,13,14,15] (λi _ _ _ _ _ _ _ wr=>∃k:Nat,k<=s.ak.length/\i=.int .i64 k/\(∀j,j<k->wZ s j=true)/\Below W0.heap.size W0 wr) (λi _ _ _ _ _ _ _ _=>s.ak.length - (RowKit.intOf i).toNat)
   case atStart=>exact⟨0,aN _,rfl,λj hj=>by omega,hbw⟩
   case round=>
    clear y0 y1 x0 x1 x2 x3 x4 x5 x6 fB fC;clear hbw hB;obtain⟨k,hk,rfl,jc7,hbw⟩:=hrel;have Ry:=ah jc7;clear jc7;have hB:=fD hb0 hbw;obtain⟨⟨y0,y1⟩,x0,x1,x2,x3,x4,x5,x6,fB,fC⟩:=hK.O wr (hbw);by_cases hlt:k<s.ak.length
    ·obtain⟨A',c',I8,Gv,d0,d1,hsl⟩:=(hO.O wr hB).aC hlt;obtain⟨l1,l3⟩:=zU.O.rE hlt;change 1<=(bK s.ak k).aH.length at l1
     change(bK s.ak k).aH.length<=3 at l3
     have hba:Below W0 W0 (wr.alloc (.cells #[.int .i64 (bK s.ak k).eH,.slice A' (bK s.ak k).aH.length c'] 114)):=hbw.alloc hbw.size _;have hwa:Below wr wr (wr.alloc (.cells #[.int .i64 (bK s.ak k).eH,.slice A' (bK s.ak k).aH.length c'] 114)):=(aj _ _).alloc (ay _) _;have hla:wr.heap.size<(wr.alloc (.cells #[.int .i64 (bK s.ak k).eH,.slice A' (bK s.ak k).aH.length c'] 114)).heap.size:=by simp
     have hzo:(wr.alloc (.cells #[.int .i64 (bK s.ak k).eH,.slice A' (bK s.ak k).aH.length c'] 114)).cell? wr=some (.int .i64 (bK s.ak k).eH)/\
       (wr.alloc (.cells #[.int .i64 (bK s.ak k).eH,.slice A' (bK s.ak k).aH.length c'] 114)).cell? ⟨wr.heap.size,1,none⟩=some (.slice A' (bK s.ak k).aH.length c'):=by simp
     have jeI:=ah hzo;clear hzo;by_cases hk1:(bK s.ak k).eH=1
     ·have hq:((bK s.ak k).eH==1)=true:=by simpa using hk1
      have jhe:=ah hk1;clear hk1;go_wp2_with fail;refine(yB _ _ (bK s.ak k).aH 193 #[] (λx=>decide (x.qI<x.jk)) jds (hsl.grow hwa) (λj _ W hW=>jnP _ W)).mono ?_
      rintro e W2 ⟨rfl,hb2⟩;have hag:=Yk zU.O hlt;change((bK s.ak k).aH.any λx=>decide (x.qI<x.jk))=_ at hag
      rw[hag];clear hag;cases LP:pq (s.aC k)
      ·have hng:=ah (show ¬((s.aC k).eH=1/\pq (s.aC k)=true)by rw[LP];simp)
       have hbk:=fD hba hb2;have hlk:wr.heap.size<W2.heap.size:=aJ hla hb2.size;have zo0:=(hb2.cell (p:=wr) hla).trans jeI.O.1;have zo1:=(hb2.cell (p:=⟨wr.heap.size,1,none⟩) hla).trans jeI.O.2;have hLs:=ah (hsl.grow (fD hwa hb2));clear LP hba hwa hla jeI hsl d0 d1;go_wp2_with fail;clear hq hb2;clear y0 y1 x0 x1 x2 x3 x4 x5 x6 fB fC;obtain⟨wo,hwo⟩:∃n:Nat,n=wr.heap.size:=⟨_,rfl⟩;rw[<- hwo]at hlk zo0 zo1
       rw[<- hwo];clear hwo;clear hbw hB;go_loopw[90,11,12,13,14,15] (λi _ _ _ _ _ wr=>∃m:Nat,m<=(bK s.ak k).aH.length/\i=.int .i64 m/\(∀j,j<m->mO s k j=true)/\Below W2.heap.size W2 wr) (λi _ _ _ _ _ _=>(bK s.ak k).aH.length - (RowKit.intOf i).toNat)
       case atStart=>exact⟨0,aN _,rfl,λj hj=>by omega,aj _ _⟩
       case round=>
        obtain⟨m,hm,rfl,zW,hbl⟩:=hrel;have pR:=ah zW;clear zW;have hbw:=fD hbk hbl;have hB:=fD hb0 hbw;obtain⟨⟨y0,y1⟩,x0,x1,x2,x3,x4,x5,x6,fB,fC⟩:=hK.O wr (hbw);have w0:=(hbl.cell (p:=wo) hlk).trans zo0;have w1:=(hbl.cell (p:=⟨wo,1,none⟩) hlk).trans zo1;have hlw:=aJ hlk hbl.size;by_cases hml:m<(bK s.ak k).aH.length
        ·obtain⟨hok2,Qs,e0,e1,e2,e3⟩:=(hLs.O.grow hbl).at_.aK hml;have hl:fG (bK s.ak k).aH m=s.aK k m:=rfl;rw[hl]at e0 e1 e2 e3
         clear hl;obtain⟨_,⟨b1,b2⟩,⟨b3,b4⟩,b5,b6⟩:=zU.O.aK hlt hml;obtain⟨b7,b8⟩:=wH zU.O.aA k m;have joE:=ah (show(N8 s.aA k m).1=kept s.aA k m by rw[SN zU.O.aA])
         have hke2:=ah (show(N8 s.aA k m).2=0 by rw[SN zU.O.aA])
         have Rw:Below W2 W2 (wr.alloc (xZ (s.aK k m))):=hbl.alloc hbl.size _;have jeY:wr.heap.size<(wr.alloc (xZ (s.aK k m))).heap.size:=by simp
         have hzl:(wr.alloc (xZ (s.aK k m))).cell? ⟨wr.heap.size,1,none⟩=some (.int .i64 (s.aK k m).jk)/\(wr.alloc (xZ (s.aK k m))).cell? ⟨wr.heap.size,2,none⟩=some (.int .i64 (s.aK k m).qI)/\(wr.alloc (xZ (s.aK k m))).cell? ⟨wr.heap.size,3,none⟩=some (.int .i64 (s.aK k m).eU):=by simp
         have jeJ:=ah hzl;have uo:=fD hbk Rw;have hB1:=fD hb0 uo;clear hzl;go_wp2_with fail;refine(jjK _ _ s.aA k m (hH.O _ hB1)).mono ?_
         rintro e W3 ⟨rfl,hb3⟩;rw[joE.O,hke2.O];have Je:=fD Rw hb3;have hbw3:=fD hbk Je;have z0:=(Je.cell (p:=wo) hlk).trans zo0;have z1:=(hb3.cell (p:=⟨wr.heap.size,1,none⟩) jeY).trans jeJ.O.1;have z2:=(hb3.cell (p:=⟨wr.heap.size,2,none⟩) jeY).trans jeJ.O.2.1;have z3:=(hb3.cell (p:=⟨wr.heap.size,3,none⟩) jeY).trans jeJ.O.2.2;clear e0 e1 e2 e3 w0 w1;clear y0 y1 x0 x1 x2 x3 x4 x5 x6 fB fC;have hparts:=ZF s k m;unfold aI.aC at hparts
         rcases hparts with⟨g1,g2,g3,hf⟩|⟨g1,g2,g3,hf⟩|⟨g1,g2,hf⟩|⟨g1,g2,g3,g4,hf⟩|⟨g1,g2,g3,g4,hf⟩|⟨g1,g2,g3,hf⟩
         ·have dw:=ah (qG (p:=p) hlt (nR hml hf));clear hf;go_wp2_with fail;go_ret
          exact⟨gK (by rw[dw.O]),fD hb0 hbw3⟩
         ·have hf':=ah hf;clear hf;go_wp2_with fail;go_roundw
          case rel=>
           refine⟨m+1,by omega,by go_num,λj hj=>?_,Je⟩
           rcases bf.1 hj with h|rfl
           ·exact pR.O j h
           ·exact hf'.O
          case measure=>simp[dY];omega
         ·have dw:=ah (qG (p:=p) hlt (nR hml hf));clear hf;go_wp2_with fail;go_ret
          exact⟨gK (by rw[dw.O]),fD hb0 hbw3⟩
         ·have dw:=ah (qG (p:=p) hlt (nR hml hf));clear hf;go_wp2_with fail;go_ret
          exact⟨gK (by rw[dw.O]),fD hb0 hbw3⟩
         ·have hf':=ah hf;clear hf;go_wp2_with fail;go_roundw
          case rel=>
           refine⟨m+1,by omega,by go_num,λj hj=>?_,Je⟩
           rcases bf.1 hj with h|rfl
           ·exact pR.O j h
           ·exact hf'.O
          case measure=>simp[dY];omega
         ·have hf':=ah hf;clear hf;go_wp2_with fail;go_roundw
          case rel=>
           refine⟨m+1,by omega,by go_num,λj hj=>?_,Je⟩
           rcases bf.1 hj with h|rfl
           ·exact pR.O j h
           ·exact hf'.O
          case measure=>simp[dY];omega
        ·obtain rfl:m=(bK s.ak k).aH.length:=by omega
         go_wp2_with fail;go_roundw
         case rel=>
          refine⟨k+1,by omega,by go_num,λj hj=>?_,hbw⟩
          rcases bf.1 hj with h|rfl
          ·exact Ry.O j h
          ·exact sK.2 ⟨hng.O,pR.O⟩
         case measure=>simp[dY];omega
      ·have dw:=ah (qG (p:=p) hlt (NZ jhe.O LP));clear LP;go_wp2_with fail;go_ret
       exact⟨gK (by rw[dw.O]),hb0.trans ((fD hba hb2).mono hb0.size)⟩
     ·have hq:((bK s.ak k).eH==1)=false:=by simpa using hk1
      have hng:=ah (show ¬((s.aC k).eH=1/\pq (s.aC k)=true)from λh=>hk1 h.1)
      clear hk1;go_wp2_with fail;clear hq;generalize hW2:wr.alloc (.cells #[.int .i64 (bK s.ak k).eH,.slice A' (bK s.ak k).aH.length c'] 114)=W2 at hba hwa hla jeI ⊢
      have hbk:=hba;have hlk:=hla;have zo0:=jeI.O.1;have zo1:=jeI.O.2;have hLs:=ah (hsl.grow hwa);clear hba hwa hla jeI hsl d0 d1 hW2;clear y0 y1 x0 x1 x2 x3 x4 x5 x6 fB fC;obtain⟨wo,hwo⟩:∃n:Nat,n=wr.heap.size:=⟨_,rfl⟩;rw[<- hwo]at hlk zo0 zo1
      rw[<- hwo];clear hwo;clear hbw hB;go_loopw[90,11,12,13,14,15] (λi _ _ _ _ _ wr=>∃m:Nat,m<=(bK s.ak k).aH.length/\i=.int .i64 m/\(∀j,j<m->mO s k j=true)/\Below W2.heap.size W2 wr) (λi _ _ _ _ _ _=>(bK s.ak k).aH.length - (RowKit.intOf i).toNat)
      case atStart=>exact⟨0,aN _,rfl,λj hj=>by omega,aj _ _⟩
      case round=>
       obtain⟨m,hm,rfl,zW,hbl⟩:=hrel;have pR:=ah zW;clear zW;have hbw:=fD hbk hbl;have hB:=fD hb0 hbw;obtain⟨⟨y0,y1⟩,x0,x1,x2,x3,x4,x5,x6,fB,fC⟩:=hK.O wr (hbw);have w0:=(hbl.cell (p:=wo) hlk).trans zo0;have w1:=(hbl.cell (p:=⟨wo,1,none⟩) hlk).trans zo1;have hlw:=aJ hlk hbl.size;by_cases hml:m<(bK s.ak k).aH.length
       ·obtain⟨hok2,Qs,e0,e1,e2,e3⟩:=(hLs.O.grow hbl).at_.aK hml;have hl:fG (bK s.ak k).aH m=s.aK k m:=rfl;rw[hl]at e0 e1 e2 e3
        clear hl;obtain⟨_,⟨b1,b2⟩,⟨b3,b4⟩,b5,b6⟩:=zU.O.aK hlt hml;obtain⟨b7,b8⟩:=wH zU.O.aA k m;have joE:=ah (show(N8 s.aA k m).1=kept s.aA k m by rw[SN zU.O.aA])
        have hke2:=ah (show(N8 s.aA k m).2=0 by rw[SN zU.O.aA])
        have Rw:Below W2 W2 (wr.alloc (xZ (s.aK k m))):=hbl.alloc hbl.size _;have jeY:wr.heap.size<(wr.alloc (xZ (s.aK k m))).heap.size:=by simp
        have hzl:(wr.alloc (xZ (s.aK k m))).cell? ⟨wr.heap.size,1,none⟩=some (.int .i64 (s.aK k m).jk)/\(wr.alloc (xZ (s.aK k m))).cell? ⟨wr.heap.size,2,none⟩=some (.int .i64 (s.aK k m).qI)/\(wr.alloc (xZ (s.aK k m))).cell? ⟨wr.heap.size,3,none⟩=some (.int .i64 (s.aK k m).eU):=by simp
        have jeJ:=ah hzl;have uo:=fD hbk Rw;have hB1:=fD hb0 uo;clear hzl;go_wp2_with fail;refine(jjK _ _ s.aA k m (hH.O _ hB1)).mono ?_
        rintro e W3 ⟨rfl,hb3⟩;rw[joE.O,hke2.O];have Je:=fD Rw hb3;have hbw3:=fD hbk Je;have z0:=(Je.cell (p:=wo) hlk).trans zo0;have z1:=(hb3.cell (p:=⟨wr.heap.size,1,none⟩) jeY).trans jeJ.O.1;have z2:=(hb3.cell (p:=⟨wr.heap.size,2,none⟩) jeY).trans jeJ.O.2.1;have z3:=(hb3.cell (p:=⟨wr.heap.size,3,none⟩) jeY).trans jeJ.O.2.2;clear e0 e1 e2 e3 w0 w1;clear y0 y1 x0 x1 x2 x3 x4 x5 x6 fB fC;have hparts:=ZF s k m;unfold aI.aC at hparts
        rcases hparts with⟨g1,g2,g3,hf⟩|⟨g1,g2,g3,hf⟩|⟨g1,g2,hf⟩|⟨g1,g2,g3,g4,hf⟩|⟨g1,g2,g3,g4,hf⟩|⟨g1,g2,g3,hf⟩
        ·have dw:=ah (qG (p:=p) hlt (nR hml hf));clear hf;go_wp2_with fail;go_ret
         exact⟨gK (by rw[dw.O]),fD hb0 hbw3⟩
        ·have hf':=ah hf;clear hf;go_wp2_with fail;go_roundw
         case rel=>
          refine⟨m+1,by omega,by go_num,λj hj=>?_,Je⟩
          rcases bf.1 hj with h|rfl
          ·exact pR.O j h
          ·exact hf'.O
         case measure=>simp[dY];omega
        ·have dw:=ah (qG (p:=p) hlt (nR hml hf));clear hf;go_wp2_with fail;go_ret
         exact⟨gK (by rw[dw.O]),fD hb0 hbw3⟩
        ·have dw:=ah (qG (p:=p) hlt (nR hml hf));clear hf;go_wp2_with fail;go_ret
         exact⟨gK (by rw[dw.O]),fD hb0 hbw3⟩
        ·have hf':=ah hf;clear hf;go_wp2_with fail;go_roundw
         case rel=>
          refine⟨m+1,by omega,by go_num,λj hj=>?_,Je⟩
          rcases bf.1 hj with h|rfl
          ·exact pR.O j h
          ·exact hf'.O
         case measure=>simp[dY];omega
        ·have hf':=ah hf;clear hf;go_wp2_with fail;go_roundw
         case rel=>
          refine⟨m+1,by omega,by go_num,λj hj=>?_,Je⟩
          rcases bf.1 hj with h|rfl
          ·exact pR.O j h
          ·exact hf'.O
         case measure=>simp[dY];omega
       ·obtain rfl:m=(bK s.ak k).aH.length:=by omega
        go_wp2_with fail;go_roundw
        case rel=>
         refine⟨k+1,by omega,by go_num,λj hj=>?_,hbw⟩
         rcases bf.1 hj with h|rfl
         ·exact Ry.O j h
         ·exact sK.2 ⟨hng.O,pR.O⟩
        case measure=>simp[dY];omega
    ·obtain rfl:k=s.ak.length:=by omega
     have dw:=ah (QV.2 ⟨hall'.O,Ry.O⟩);go_wp2_with fail;go_ret
     exact⟨gK (by rw[dw.O]),hB⟩
end
end Wh
