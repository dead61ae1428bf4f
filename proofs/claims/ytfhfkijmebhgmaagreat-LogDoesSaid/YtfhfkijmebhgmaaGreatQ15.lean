/- Texts of the claim, joined. -/
import Derived.Test.YtfhfkijmebhgmaaGreatQ14
set_option maxHeartbeats 20000000
set_option maxRecDepth 100000
namespace Wh
open Go Go.RowKit Go.Shelf Go.Proofs Tryz
attribute [local go_sem] au
theorem oW {p:Plan} {s:State} (h:formed p s=true→False):formed p s=false:=by
 cases hh:formed p s
 ·rfl
 ·exact (h hh).elim
theorem YP (p:Plan) (x:Line):(bU p x.good=false∧jY p x=false)∨(bU p x.good=true∧within x.want 1 200=false∧jY p x=false)∨(bU p x.good=true∧within x.want 1 200=true∧within x.got 0 x.want=false∧jY p x=false)∨
  (bU p x.good=true∧within x.want 1 200=true∧within x.got 0 x.want=true∧within x.back 0 x.want=false∧jY p x=false)∨(bU p x.good=true∧within x.want 1 200=true∧within x.got 0 x.want=true∧within x.back 0 x.want=true∧jY p x=true):=by
 unfold jY;cases bU p x.good<;>cases within x.want 1 200<;>cases within x.got 0 x.want<;>cases within x.back 0 x.want<;>simp
theorem YM (p:Plan) (x:Move):(bU p x.good=false∧jR p x=false)∨(bU p x.good=true∧fD p x.src=false∧jR p x=false)∨(bU p x.good=true∧fD p x.src=true∧fD p x.dst=false∧jR p x=false)∨
  (bU p x.good=true∧fD p x.src=true∧fD p x.dst=true∧(x.src==x.dst)=true∧jR p x=false)∨(bU p x.good=true∧fD p x.src=true∧fD p x.dst=true∧(x.src==x.dst)=false∧within x.n 1 200=false∧jR p x=false)∨
  (bU p x.good=true∧fD p x.src=true∧fD p x.dst=true∧(x.src==x.dst)=false∧within x.n 1 200=true∧jR p x=true):=by
 unfold jR;cases bU p x.good<;>cases fD p x.src<;>cases fD p x.dst<;>cases within x.n 1 200<;>by_cases h:x.src=x.dst<;>simp [h]
theorem jfm (p:Plan) {b:Int} (h0:0≤b):fD p b=decide (b<(p.aH.length:Int)):=by
 rw [GV,oU,dR];omega
theorem Yd (p:Plan) (s:State):s.inn.length≠p.sizes.length∧formed p s=false∨s.inn.length=p.sizes.length∧s.out.length≠p.sizes.length∧formed p s=false∨s.inn.length=p.sizes.length∧s.out.length=p.sizes.length∧s.fixed.length≠p.sizes.length∧formed p s=false∨
  s.inn.length=p.sizes.length∧s.out.length=p.sizes.length∧s.fixed.length=p.sizes.length:=by
 have h:formed p s=true→s.inn.length=p.sizes.length∧s.out.length=p.sizes.length∧s.fixed.length=p.sizes.length:=fun h=>by
  have h:=aS.1 h;exact ⟨(jr.1 h.2.2.2.2.1).1,(jr.1 h.2.2.2.2.2.1).1,(jr.1 h.2.2.2.2.2.2).1⟩
 cases hf:formed p s
 ·simp only [nV];omega
 ·have:=h hf;omega
def JH (s:State) (g:Nat):Bool:=within (aC s.inn g) 0 1048576&&within (aC s.out g) 0 1048576&&within (aC s.fixed g) (-1048576) 1048576
theorem Zx (s:State) (g:Nat):(within (aC s.inn g) 0 1048576=false∧JH s g=false)∨(within (aC s.inn g) 0 1048576=true∧within (aC s.out g) 0 1048576=false∧JH s g=false)∨(within (aC s.inn g) 0 1048576=true∧within (aC s.out g) 0 1048576=true∧within (aC s.fixed g) (-1048576) 1048576=false∧JH s g=false)∨
  (within (aC s.inn g) 0 1048576=true∧within (aC s.out g) 0 1048576=true∧within (aC s.fixed g) (-1048576) 1048576=true∧JH s g=true):=by
 unfold JH;cases within (aC s.inn g) 0 1048576<;>cases within (aC s.out g) 0 1048576<;>cases within (aC s.fixed g) (-1048576) 1048576<;>simp
theorem WV {p:Plan} {s:State} (h:formed p s=true) {g:Nat} (hg:g<p.sizes.length):JH s g=true:=by
 have h:=aS.1 h;obtain ⟨i1,i2⟩:=jr.1 h.2.2.2.2.1;obtain ⟨o1,o2⟩:=jr.1 h.2.2.2.2.2.1;obtain ⟨f1,f2⟩:=jr.1 h.2.2.2.2.2.2;unfold JH;rw [dL,dL];exact ⟨⟨kY 0 i2 (by omega),kY 0 o2 (by omega)⟩,kY 0 f2 (by omega)⟩
theorem jdV {p:Plan} {s:State} (h1:s.orders.all (mY p)=true) (h2:bQ s.holds=true) (h3:s.holds.all (oO p s)=true) (h4:s.moves.all (jR p)=true) (h5:s.inn.length=p.sizes.length∧s.out.length=p.sizes.length∧s.fixed.length=p.sizes.length)
  (h6:∀ g,g<p.sizes.length→JH s g=true):formed p s=true:=by
 have h:∀ g,g<p.sizes.length→within (aC s.inn g) 0 1048576=true∧within (aC s.out g) 0 1048576=true∧within (aC s.fixed g) (-1048576) 1048576=true:=fun g hg=>by
  have:=h6 g hg;unfold JH at this
  rw [dL,dL] at this
  exact ⟨this.1.1,this.1.2,this.2⟩
 exact aS.2 ⟨h1,h2,h3,h4,jr.2 ⟨h5.1,uo 0 fun g hg=>(h g (by omega)).1⟩,jr.2 ⟨h5.2.1,uo 0 fun g hg=>(h g (by omega)).2.1⟩,jr.2 ⟨h5.2.2,uo 0 fun g hg=>(h g (by omega)).2.2⟩⟩
theorem jhM (w:World) (v vs:Value) (p:Plan) (s:State) (hp:fZ w w.heap.size v p) (hv:fE w w.heap.size vs s) (hz:bK p=0) (h4:s.orders.length≤4) (h8:s.moves.length≤8) (jf1:∀ o,o<s.orders.length→(ay s.orders o).lines.length≤1000):
  Calls prog 39 #[v,vs] w fun e w'=>e=.returned (.bool (formed p s))∧Below w.heap.size w w':=by
 have hP:=hp;obtain ⟨_,_,rfl,⟨Ab,cb,rfl,hlb,hb⟩,⟨As,cs,rfl,hls,hs⟩⟩:=hp;have hS:=hv;obtain ⟨_,_,_,_,_,_,_,rfl,⟨A0,c0,vs0,rfl,hl0,hm0,ha0,hr0⟩,⟨A1,c1,vs1,rfl,hl1,hm1,ha1,hr1⟩,⟨A2,c2,rfl,hl2,ha2⟩,⟨A3,c3,rfl,hl3,ha3⟩,⟨A4,c4,rfl,hl4,ha4⟩,⟨A5,c5,rfl,hl5,ha5⟩,⟨A6,c6,rfl,CW,ha6⟩⟩:=hv;have hcnt:=jC hz;have hb0:Below w.heap.size w ((w.alloc (.cells #[.slice Ab p.aH.length cb,.slice As p.sizes.length cs] 25)).alloc (.cells #[.slice A0 s.on.length c0,.slice A1 s.orders.length c1,.slice A2 s.holds.length c2,.slice A3 s.moves.length c3,.slice A4 s.inn.length c4,.slice A5 s.out.length c5,.slice A6 s.fixed.length c6] 31)):=((aj _ _).alloc (aA _) _).alloc (by simp) _
 have hsz0:w.heap.size+1<((w.alloc (.cells #[.slice Ab p.aH.length cb,.slice As p.sizes.length cs] 25)).alloc (.cells #[.slice A0 s.on.length c0,.slice A1 s.orders.length c1,.slice A2 s.holds.length c2,.slice A3 s.moves.length c3,.slice A4 s.inn.length c4,.slice A5 s.out.length c5,.slice A6 s.fixed.length c6] 31)).heap.size:=by simp
 have hz0:(((w.alloc (.cells #[.slice Ab p.aH.length cb,.slice As p.sizes.length cs] 25)).alloc (.cells #[.slice A0 s.on.length c0,.slice A1 s.orders.length c1,.slice A2 s.holds.length c2,.slice A3 s.moves.length c3,.slice A4 s.inn.length c4,.slice A5 s.out.length c5,.slice A6 s.fixed.length c6] 31)).cell? ⟨w.heap.size,0,none⟩=some (.slice Ab p.aH.length cb)∧((w.alloc (.cells #[.slice Ab p.aH.length cb,.slice As p.sizes.length cs] 25)).alloc (.cells #[.slice A0 s.on.length c0,.slice A1 s.orders.length c1,.slice A2 s.holds.length c2,.slice A3 s.moves.length c3,.slice A4 s.inn.length c4,.slice A5 s.out.length c5,.slice A6 s.fixed.length c6] 31)).cell? ⟨w.heap.size,1,none⟩=some (.slice As p.sizes.length cs))∧
   ((w.alloc (.cells #[.slice Ab p.aH.length cb,.slice As p.sizes.length cs] 25)).alloc (.cells #[.slice A0 s.on.length c0,.slice A1 s.orders.length c1,.slice A2 s.holds.length c2,.slice A3 s.moves.length c3,.slice A4 s.inn.length c4,.slice A5 s.out.length c5,.slice A6 s.fixed.length c6] 31)).cell? ⟨w.heap.size+1,1,none⟩=some (.slice A1 s.orders.length c1)∧((w.alloc (.cells #[.slice Ab p.aH.length cb,.slice As p.sizes.length cs] 25)).alloc (.cells #[.slice A0 s.on.length c0,.slice A1 s.orders.length c1,.slice A2 s.holds.length c2,.slice A3 s.moves.length c3,.slice A4 s.inn.length c4,.slice A5 s.out.length c5,.slice A6 s.fixed.length c6] 31)).cell? ⟨w.heap.size+1,2,none⟩=some (.slice A2 s.holds.length c2)∧((w.alloc (.cells #[.slice Ab p.aH.length cb,.slice As p.sizes.length cs] 25)).alloc (.cells #[.slice A0 s.on.length c0,.slice A1 s.orders.length c1,.slice A2 s.holds.length c2,.slice A3 s.moves.length c3,.slice A4 s.inn.length c4,.slice A5 s.out.length c5,.slice A6 s.fixed.length c6] 31)).cell? ⟨w.heap.size+1,3,none⟩=some (.slice A3 s.moves.length c3)∧
   ((w.alloc (.cells #[.slice Ab p.aH.length cb,.slice As p.sizes.length cs] 25)).alloc (.cells #[.slice A0 s.on.length c0,.slice A1 s.orders.length c1,.slice A2 s.holds.length c2,.slice A3 s.moves.length c3,.slice A4 s.inn.length c4,.slice A5 s.out.length c5,.slice A6 s.fixed.length c6] 31)).cell? ⟨w.heap.size+1,4,none⟩=some (.slice A4 s.inn.length c4)∧((w.alloc (.cells #[.slice Ab p.aH.length cb,.slice As p.sizes.length cs] 25)).alloc (.cells #[.slice A0 s.on.length c0,.slice A1 s.orders.length c1,.slice A2 s.holds.length c2,.slice A3 s.moves.length c3,.slice A4 s.inn.length c4,.slice A5 s.out.length c5,.slice A6 s.fixed.length c6] 31)).cell? ⟨w.heap.size+1,5,none⟩=some (.slice A5 s.out.length c5)∧((w.alloc (.cells #[.slice Ab p.aH.length cb,.slice As p.sizes.length cs] 25)).alloc (.cells #[.slice A0 s.on.length c0,.slice A1 s.orders.length c1,.slice A2 s.holds.length c2,.slice A3 s.moves.length c3,.slice A4 s.inn.length c4,.slice A5 s.out.length c5,.slice A6 s.fixed.length c6] 31)).cell? ⟨w.heap.size+1,6,none⟩=some (.slice A6 s.fixed.length c6):=by simp
 have hO:=Lib.hid (fun W (hW:Below w.heap.size w W)=>(gI.up ⟨A1,c1,vs1,rfl,hl1,hm1,ha1,hr1⟩ hW hW.size:gI W W.heap.size (.slice A1 s.orders.length c1) s.orders))
 have hH:=Lib.hid (fun W (hW:Below w.heap.size w W)=>(Sl.up ⟨A2,c2,rfl,hl2,ha2⟩ hW hW.size:Sl bM W W.heap.size (.slice A2 s.holds.length c2) s.holds))
 have hM:=Lib.hid (fun W (hW:Below w.heap.size w W)=>(Sl.up ⟨A3,c3,rfl,hl3,ha3⟩ hW hW.size:Sl gV W W.heap.size (.slice A3 s.moves.length c3) s.moves))
 have hI:=Lib.hid (fun W (hW:Below w.heap.size w W)=>(Sl.up ⟨A4,c4,rfl,hl4,ha4⟩ hW hW.size:Sl dY W W.heap.size (.slice A4 s.inn.length c4) s.inn))
 have hU:=Lib.hid (fun W (hW:Below w.heap.size w W)=>(Sl.up ⟨A5,c5,rfl,hl5,ha5⟩ hW hW.size:Sl dY W W.heap.size (.slice A5 s.out.length c5) s.out))
 have hX:=Lib.hid (fun W (hW:Below w.heap.size w W)=>(Sl.up ⟨A6,c6,rfl,CW,ha6⟩ hW hW.size:Sl dY W W.heap.size (.slice A6 s.fixed.length c6) s.fixed))
 have hP':=Lib.hid (fun W (hW:Below w.heap.size w W)=>hP.up hW hW.size)
 have jdG:=Lib.hid jf1;clear hz jf1 hP hS;go_enter func39,ntmps39
 go_wp2_with fail;generalize hW0:(w.alloc (.cells #[.slice Ab p.aH.length cb,.slice As p.sizes.length cs] 25)).alloc (.cells #[.slice A0 s.on.length c0,.slice A1 s.orders.length c1,.slice A2 s.holds.length c2,.slice A3 s.moves.length c3,.slice A4 s.inn.length c4,.slice A5 s.out.length c5,.slice A6 s.fixed.length c6] 31)=W0 at hb0 hsz0 hz0 ⊢
 have hz0':=Lib.hid hz0;clear hW0 hz0;have hsz1:w.heap.size<W0.heap.size:=by omega
 have hK:=Lib.hid (fun W (hW:Below W0.heap.size W0 W)=>And.intro (And.intro ((hW.cell (p:=⟨w.heap.size,0,none⟩) hsz1).trans hz0'.out.1.1) ((hW.cell (p:=⟨w.heap.size,1,none⟩) hsz1).trans hz0'.out.1.2))
  (And.intro ((hW.cell (p:=⟨w.heap.size+1,1,none⟩) hsz0).trans hz0'.out.2.1) (And.intro ((hW.cell (p:=⟨w.heap.size+1,2,none⟩) hsz0).trans hz0'.out.2.2.1) (And.intro ((hW.cell (p:=⟨w.heap.size+1,3,none⟩) hsz0).trans hz0'.out.2.2.2.1)
  (And.intro ((hW.cell (p:=⟨w.heap.size+1,4,none⟩) hsz0).trans hz0'.out.2.2.2.2.1) (And.intro ((hW.cell (p:=⟨w.heap.size+1,5,none⟩) hsz0).trans hz0'.out.2.2.2.2.2.1) ((hW.cell (p:=⟨w.heap.size+1,6,none⟩) hsz0).trans hz0'.out.2.2.2.2.2.2)))))))
 go_loopw [5,6,7] (fun i _ _ wr=>∃ k:Nat,k≤s.orders.length∧i=.int .i64 k∧(∀ j,j<k→mY p (ay s.orders j)=true)∧Below W0.heap.size W0 wr) (fun i _ _ _=>s.orders.length - (intOf i).toNat)
 case atStart=>exact ⟨0,aT _,rfl,fun j hj=>by omega,aj _ _⟩
 case round=>
  obtain ⟨k,hk,rfl,hall,hbw⟩:=hrel;have hall':=Lib.hid hall;clear hall;have hB:=hb0.trans (hbw.mono hb0.size);obtain ⟨⟨y0,y1⟩,x1,x2,x3,x4,x5,x6⟩:=hK.out wr hbw;have aV:w.heap.size+1<wr.heap.size:=aZ hsz0 hbw.size;by_cases hlt:k<s.orders.length
  ·obtain ⟨A',c',hok1,yw,d0,d1,hsl⟩:=(hO.out wr hB).order hlt;have hl33:=jdG.out k hlt;cases hki:within (ay s.orders k).kind 0 2
   ·have hfin:=Lib.hid (show formed p s=false from oW fun h=>by
     have:=kY yC (aS.1 h).1 hlt;change mY p (ay s.orders k)=true at this
     unfold mY at this
     rw [hki] at this;cases this)
    go_wp2_with (go_at_call 38;refine (iw _ _ _ _).mono ?_;rintro e w' ⟨rfl,rfl⟩)
    go_ret
    exact ⟨aY (by rw [hfin.out]),hB⟩
   ·have jqs:=Lib.hid hki;go_wp2_with (go_at_call 38;refine (iw _ _ _ _).mono ?_;rintro e w' ⟨rfl,rfl⟩)
    go_loopw [6,7] (fun i _ wr=>∃ m:Nat,m≤(ay s.orders k).lines.length∧i=.int .i64 m∧(∀ j,j<m→jY p (bH (ay s.orders k).lines j)=true)∧Below W0.heap.size W0 wr) (fun i _ _=>(ay s.orders k).lines.length - (intOf i).toNat)
    case atStart=>exact ⟨0,aT _,rfl,fun j hj=>by omega,hbw⟩
    case round=>
     clear hbw hB y0 y1 x1 x2 x3 x4 x5 x6 aV hok1 yw d0 d1 hsl;obtain ⟨m,hm,rfl,pK,hbw⟩:=hrel;have iP:=Lib.hid pK;clear pK;have hB:=hb0.trans (hbw.mono hb0.size);obtain ⟨⟨y0,y1⟩,x1,x2,x3,x4,x5,x6⟩:=hK.out wr hbw;have aV:w.heap.size+1<wr.heap.size:=aZ hsz0 hbw.size;have aW:w.heap.size<wr.heap.size:=by omega
     obtain ⟨A',c',hok1,yw,d0,d1,hsl⟩:=(hO.out wr hB).order hlt;by_cases hml:m<(ay s.orders k).lines.length
     ·obtain ⟨hok2,Jt,e0,e1,e2,e3⟩:=hsl.at_.line hml;have hba:Below W0.heap.size W0 (wr.alloc (.cells #[.int .i64 (bH (ay s.orders k).lines m).good,.int .i64 (bH (ay s.orders k).lines m).want,.int .i64 (bH (ay s.orders k).lines m).got,.int .i64 (bH (ay s.orders k).lines m).back] 44)):=hbw.alloc hbw.size _;have hBa:=hb0.trans (hba.mono hb0.size);rcases YP p (bH (ay s.orders k).lines m) with ⟨g1,hf⟩|⟨g1,g2,hf⟩|⟨g1,g2,g3,hf⟩|⟨g1,g2,g3,g4,hf⟩|⟨g1,g2,g3,g4,hf⟩
      rotate_left 4
      focus
       have hf':=Lib.hid hf;clear hf;go_wp2_with (first|(go_at_call 38;refine (iw _ _ _ _).mono ?_;rintro e w' ⟨rfl,rfl⟩)|(go_at_call 69;refine (uV _ _ p _ (hP'.out _ hBa) (by omega)).mono ?_;rintro e W1 ⟨rfl,hb1⟩;obtain ⟨hc1,hf1⟩:=nP hb1;have hz1:=hb1.size))
       go_roundw
       case rel=>
        refine ⟨m+1,by omega,by go_num,fun j hj=>?_,hba.trans (hb1.mono hba.size)⟩
        rcases dB.1 hj with h|rfl
        ·exact iP.out j h
        ·exact hf'.out
       case measure=>simp [intOf];omega
      all_goals
       have hfin:=Lib.hid (show formed p s=false from oW fun h=>by
        have h1:=kY yC (aS.1 h).1 hlt;have h2:jY p (bH (ay s.orders k).lines m)=true:=kY dLine (vY.1 h1).2 hml;rw [hf] at h2;cases h2)
       clear hf;go_wp2_with (first|(go_at_call 38;refine (iw _ _ _ _).mono ?_;rintro e w' ⟨rfl,rfl⟩)|(go_at_call 69;refine (uV _ _ p _ (hP'.out _ hBa) (by omega)).mono ?_;rintro e W1 ⟨rfl,hb1⟩;obtain ⟨hc1,hf1⟩:=nP hb1;have hz1:=hb1.size))
       go_ret
       exact ⟨aY (by rw [hfin.out]),hBa.trans (hb1.mono hBa.size)⟩
     ·obtain rfl:m=(ay s.orders k).lines.length:=by omega
      go_wp2_with fail;go_roundw
      case rel=>
       refine ⟨k+1,by omega,by go_num,fun j hj=>?_,hbw⟩
       rcases dB.1 hj with h|rfl
       ·exact hall'.out j h
       ·exact vY.2 ⟨within_iff.1 jqs.out,uo dLine iP.out⟩
      case measure=>simp [intOf];omega
  ·obtain rfl:k=s.orders.length:=by omega
   have hord:=Lib.hid (uo yC hall'.out);clear hall';go_wp2_with fail;refine (Yw _ _ s.holds (hH.out wr hB)).mono ?_
   rintro e W1 ⟨rfl,hb1⟩;have hba:=hbw.trans (hb1.mono hbw.size);have hBa:=hb0.trans (hba.mono hb0.size);clear y0 y1 x1 x2 x3 x4 x5 x6 aV;obtain ⟨⟨y0,y1⟩,x1,x2,x3,x4,x5,x6⟩:=hK.out W1 hba;cases hok:bQ s.holds
   ·have hc:fB s.holds=1:=by unfold fB;rw [hok];rfl
    have hfin:=Lib.hid (show formed p s=false from oW fun h=>by
     have:=(aS.1 h).2.1;rw [hok] at this;cases this)
    rw [hc];clear hc hok;go_wp2_with fail;go_ret
    exact ⟨aY (by rw [hfin.out]),hBa⟩
   have hc:fB s.holds=0:=by unfold fB;rw [hok];rfl
   have Nu:=jJ hok;have hok':=Lib.hid hok;rw [hc];clear hc hok;go_wp2_with fail;go_loopw [8,9] (fun i _ wr=>∃ m:Nat,m≤s.holds.length∧i=.int .i64 m∧(∀ j,j<m→oO p s (hold s.holds j)=true)∧Below W0.heap.size W0 wr) (fun i _ _=>s.holds.length - (intOf i).toNat)
   case atStart=>exact ⟨0,aT _,rfl,fun j hj=>by omega,hba⟩
   case round=>
    clear hbw hB y0 y1 x1 x2 x3 x4 x5 x6 hb1 hba hBa;obtain ⟨m,hm,rfl,pK,hbw⟩:=hrel;have iP:=Lib.hid pK;clear pK;have hB:=hb0.trans (hbw.mono hb0.size);obtain ⟨⟨y0,y1⟩,x1,x2,x3,x4,x5,x6⟩:=hK.out wr hbw;have aV:w.heap.size+1<wr.heap.size:=aZ hsz0 hbw.size;have aW:w.heap.size<wr.heap.size:=by omega
    by_cases hml:m<s.holds.length
    ·obtain ⟨hok2,Jt,e0,e1,e2,e3⟩:=(hH.out wr hB).at_.hold hml;have hkey:=zH hok'.out hml;have hba:Below W0.heap.size W0 (wr.alloc (.cells #[.int .i64 (hold s.holds m).order,.int .i64 (hold s.holds m).line,.int .i64 (hold s.holds m).bin,.int .i64 (hold s.holds m).n] 46)):=hbw.alloc hbw.size _;have hBa:=hb0.trans (hba.mono hb0.size);have hlW:wr.heap.size<(wr.alloc (.cells #[.int .i64 (hold s.holds m).order,.int .i64 (hold s.holds m).line,.int .i64 (hold s.holds m).bin,.int .i64 (hold s.holds m).n] 46)).heap.size:=by simp
     have q0:=fun o d os=>aG (w:=wr.alloc (.cells #[.int .i64 (hold s.holds m).order,.int .i64 (hold s.holds m).line,.int .i64 (hold s.holds m).bin,.int .i64 (hold s.holds m).n] 46)) (b:=w.heap.size) (by simp;omega) o d os
     have q1:=fun o d os=>aG (w:=wr.alloc (.cells #[.int .i64 (hold s.holds m).order,.int .i64 (hold s.holds m).line,.int .i64 (hold s.holds m).bin,.int .i64 (hold s.holds m).n] 46)) (b:=w.heap.size+1) (by simp;omega) o d os
     have q2:=fun o d os=>aG (w:=wr.alloc (.cells #[.int .i64 (hold s.holds m).order,.int .i64 (hold s.holds m).line,.int .i64 (hold s.holds m).bin,.int .i64 (hold s.holds m).n] 46)) (b:=wr.heap.size) hlW o d os
     unfold jL at hkey
     obtain ⟨⟨k1,k2⟩,⟨k3,k4⟩,⟨k5,k6⟩⟩:=hkey;have Zl:=jfm p k5;have hP2:=Lib.hid (fun d os=>hP'.out _ (hBa.trans ((dZ (wr.alloc (.cells #[.int .i64 (hold s.holds m).order,.int .i64 (hold s.holds m).line,.int .i64 (hold s.holds m).bin,.int .i64 (hold s.holds m).n] 46)) d os).mono hBa.size)))
     rcases MG p s (hold s.holds m) with ⟨g1,hf⟩|⟨g1,g2,hf⟩|⟨g1,g2,g3,hf⟩|⟨g1,g2,g3,hf⟩
     ·have d1:decide ((hold s.holds m).order<(s.orders.length:Int))=false:=by simpa using g1
      have d1':decide ((s.orders.length:Int)≤(hold s.holds m).order)=true:=by simpa using g1
      have hfin:=Lib.hid (show formed p s=false from oW fun h=>by
       have h2:oO p s (hold s.holds m)=true:=kY Sm (aS.1 h).2.2.1 hml;rw [hf] at h2;cases h2)
      clear hf Zl;go_wp2_with fail;refine aJ (by kernel_rfl) (by kernel_rfl) ?_
      repeat (go_big_quiet_step ((go_at_call 68;refine bD (vw _ _ p _ (hP2.out _ _) (by omega)))))
      refine wpQuiet_nil ?_
      intro W2 hw';have hb2:=aI hw';clear hw';go_wp2_with fail;go_ret
      exact ⟨aY (by rw [hfin.out]),hBa.trans (hb2.mono hBa.size)⟩
     ·have hol:(hold s.holds m).order.toNat<s.orders.length:=by omega
      obtain ⟨A',c',hok1,yw,d0,d1,hsl⟩:=(hO.out wr hB).order hol;have hll:=jdG.out _ hol;have q3:=fun o d os=>aG (w:=wr.alloc (.cells #[.int .i64 (hold s.holds m).order,.int .i64 (hold s.holds m).line,.int .i64 (hold s.holds m).bin,.int .i64 (hold s.holds m).n] 46)) (b:=dD A1) (by simp;omega) o d os
      unfold State.order at g2
      have d1:decide ((hold s.holds m).order<(s.orders.length:Int))=true:=by simpa using g1
      have d1':decide ((s.orders.length:Int)≤(hold s.holds m).order)=false:=by simpa using g1
      have d2:decide ((hold s.holds m).line<((ay s.orders (hold s.holds m).order.toNat).lines.length:Int))=false:=by simpa using g2
      have d2':decide (((ay s.orders (hold s.holds m).order.toNat).lines.length:Int)≤(hold s.holds m).line)=true:=by simpa using g2
      have hfin:=Lib.hid (show formed p s=false from oW fun h=>by
       have h2:oO p s (hold s.holds m)=true:=kY Sm (aS.1 h).2.2.1 hml;rw [hf] at h2;cases h2)
      clear hf Zl;go_wp2_with fail;refine aJ (by kernel_rfl) (by kernel_rfl) ?_
      repeat (go_big_quiet_step ((go_at_call 68;refine bD (vw _ _ p _ (hP2.out _ _) (by omega)))))
      refine wpQuiet_nil ?_
      intro W2 hw';have hb2:=aI hw';clear hw';go_wp2_with fail;go_ret
      exact ⟨aY (by rw [hfin.out]),hBa.trans (hb2.mono hBa.size)⟩
     ·have hol:(hold s.holds m).order.toNat<s.orders.length:=by omega
      obtain ⟨A',c',hok1,yw,d0,d1,hsl⟩:=(hO.out wr hB).order hol;have hll:=jdG.out _ hol;have q3:=fun o d os=>aG (w:=wr.alloc (.cells #[.int .i64 (hold s.holds m).order,.int .i64 (hold s.holds m).line,.int .i64 (hold s.holds m).bin,.int .i64 (hold s.holds m).n] 46)) (b:=dD A1) (by simp;omega) o d os
      unfold State.order at g2
      have d1:decide ((hold s.holds m).order<(s.orders.length:Int))=true:=by simpa using g1
      have d1':decide ((s.orders.length:Int)≤(hold s.holds m).order)=false:=by simpa using g1
      have d2:decide ((hold s.holds m).line<((ay s.orders (hold s.holds m).order.toNat).lines.length:Int))=true:=by simpa using g2
      have d2':decide (((ay s.orders (hold s.holds m).order.toNat).lines.length:Int)≤(hold s.holds m).line)=false:=by simpa using g2
      have jop:fD p (hold s.holds m).bin=false:=by rw [Zl];simpa using g3
      have hfin:=Lib.hid (show formed p s=false from oW fun h=>by
       have h2:oO p s (hold s.holds m)=true:=kY Sm (aS.1 h).2.2.1 hml;rw [hf] at h2;cases h2)
      clear hf Zl;go_wp2_with fail;refine aJ (by kernel_rfl) (by kernel_rfl) ?_
      repeat (go_big_quiet_step ((go_at_call 68;refine bD (vw _ _ p _ (hP2.out _ _) (by omega)))))
      refine wpQuiet_nil ?_
      intro W2 hw';have hb2:=aI hw';clear hw';go_wp2_with fail;go_ret
      exact ⟨aY (by rw [hfin.out]),hBa.trans (hb2.mono hBa.size)⟩
     ·have hol:(hold s.holds m).order.toNat<s.orders.length:=by omega
      obtain ⟨A',c',hok1,yw,d0,d1,hsl⟩:=(hO.out wr hB).order hol;have hll:=jdG.out _ hol;have q3:=fun o d os=>aG (w:=wr.alloc (.cells #[.int .i64 (hold s.holds m).order,.int .i64 (hold s.holds m).line,.int .i64 (hold s.holds m).bin,.int .i64 (hold s.holds m).n] 46)) (b:=dD A1) (by simp;omega) o d os
      unfold State.order at g2
      have d1:decide ((hold s.holds m).order<(s.orders.length:Int))=true:=by simpa using g1
      have d1':decide ((s.orders.length:Int)≤(hold s.holds m).order)=false:=by simpa using g1
      have d2:decide ((hold s.holds m).line<((ay s.orders (hold s.holds m).order.toNat).lines.length:Int))=true:=by simpa using g2
      have d2':decide (((ay s.orders (hold s.holds m).order.toNat).lines.length:Int)≤(hold s.holds m).line)=false:=by simpa using g2
      have jop:fD p (hold s.holds m).bin=true:=by rw [Zl];simpa using g3
      have hf':=Lib.hid hf;clear hf Zl;go_wp2_with fail;refine aJ (by kernel_rfl) (by kernel_rfl) ?_
      repeat (go_big_quiet_step ((go_at_call 68;refine bD (vw _ _ p _ (hP2.out _ _) (by omega)))))
      refine wpQuiet_nil ?_
      intro W2 hw';have hb2:=aI hw';clear hw';go_wp2_with fail;go_roundw
      case rel=>
       refine ⟨m+1,by omega,by go_num,fun j hj=>?_,hba.trans (hb2.mono hba.size)⟩
       rcases dB.1 hj with h|rfl
       ·exact iP.out j h
       ·exact hf'.out
      case measure=>simp [intOf];omega
    ·obtain rfl:m=s.holds.length:=by omega
     have jqx:=Lib.hid (uo Sm iP.out);clear iP;go_wp2_with fail;go_loopw [10,11] (fun i _ wr=>∃ m:Nat,m≤s.moves.length∧i=.int .i64 m∧(∀ j,j<m→jR p (aB s.moves j)=true)∧Below W0.heap.size W0 wr) (fun i _ _=>s.moves.length - (intOf i).toNat)
     case atStart=>exact ⟨0,aT _,rfl,fun j hj=>by omega,hbw⟩
     case round=>
      clear hbw hB y0 y1 x1 x2 x3 x4 x5 x6 aV aW;obtain ⟨m,hm,rfl,pK,hbw⟩:=hrel;have iP:=Lib.hid pK;clear pK;have hB:=hb0.trans (hbw.mono hb0.size);obtain ⟨⟨y0,y1⟩,x1,x2,x3,x4,x5,x6⟩:=hK.out wr hbw;have aV:w.heap.size+1<wr.heap.size:=aZ hsz0 hbw.size;have aW:w.heap.size<wr.heap.size:=by omega
      by_cases hml:m<s.moves.length
      ·obtain ⟨hok2,Jt,e0,e1,e2,e3⟩:=(hM.out wr hB).at_.move hml;have hba:Below W0.heap.size W0 (wr.alloc (.cells #[.int .i64 (aB s.moves m).good,.int .i64 (aB s.moves m).src,.int .i64 (aB s.moves m).dst,.int .i64 (aB s.moves m).n] 48)):=hbw.alloc hbw.size _;have hBa:=hb0.trans (hba.mono hb0.size);have hlW:wr.heap.size<(wr.alloc (.cells #[.int .i64 (aB s.moves m).good,.int .i64 (aB s.moves m).src,.int .i64 (aB s.moves m).dst,.int .i64 (aB s.moves m).n] 48)).heap.size:=by simp
       rcases YM p (aB s.moves m) with ⟨g1,hf⟩|⟨g1,g2,hf⟩|⟨g1,g2,g3,hf⟩|⟨g1,g2,g3,g4,hf⟩|⟨g1,g2,g3,g4,g5,hf⟩|⟨g1,g2,g3,g4,g5,hf⟩
       rotate_left 5
       focus
        have hf':=Lib.hid hf;clear hf;go_wp2_with fail;refine (uV _ _ p _ (hP'.out _ hBa) (by omega)).mono ?_
        rintro e W1 ⟨rfl,hb1⟩;obtain ⟨uc1,uf1⟩:=nP hb1;have hs1:=hb1.size;have ht1:w.heap.size<W1.heap.size:=by omega
        have ht1':wr.heap.size<W1.heap.size:=by omega
        have hBb:=hBa.trans (hb1.mono hBa.size);go_wp2_with fail;refine (vw _ _ p _ (hP'.out _ hBb) (by omega)).mono ?_
        rintro e W2 ⟨rfl,hb2⟩;obtain ⟨uc2,uf2⟩:=nP hb2;have hs2:=hb2.size;have ht2:w.heap.size<W2.heap.size:=by omega
        have jh9:wr.heap.size<W2.heap.size:=by omega
        have hBc:=hBb.trans (hb2.mono hBb.size);go_wp2_with fail;refine (vw _ _ p _ (hP'.out _ hBc) (by omega)).mono ?_
        rintro e W3 ⟨rfl,hb3⟩;obtain ⟨uc3,uf3⟩:=nP hb3;have hs3:=hb3.size;have ht3:w.heap.size<W3.heap.size:=by omega
        have jfB:wr.heap.size<W3.heap.size:=by omega
        go_wp2_with (go_at_call 38;refine (iw _ _ _ _).mono ?_;rintro e w' ⟨rfl,rfl⟩)
        go_roundw
        case rel=>
         refine ⟨m+1,by omega,by go_num,fun j hj=>?_,(hba.trans (hb1.mono hba.size)).trans ((hb2.trans (hb3.mono hb2.size)).mono (hba.trans (hb1.mono hba.size)).size)⟩
         rcases dB.1 hj with h|rfl
         ·exact iP.out j h
         ·exact hf'.out
        case measure=>simp [intOf];omega
       ·have hfin:=Lib.hid (show formed p s=false from oW fun h=>by
         have h2:jR p (aB s.moves m)=true:=kY Iu (aS.1 h).2.2.2.1 hml;rw [hf] at h2;cases h2)
        clear hf;go_wp2_with fail;refine (uV _ _ p _ (hP'.out _ hBa) (by omega)).mono ?_
        rintro e W1 ⟨rfl,hb1⟩;obtain ⟨uc1,uf1⟩:=nP hb1;have hs1:=hb1.size;have ht1:w.heap.size<W1.heap.size:=by omega
        have ht1':wr.heap.size<W1.heap.size:=by omega
        have hBb:=hBa.trans (hb1.mono hBa.size);go_wp2_with fail;go_ret
        exact ⟨aY (by rw [hfin.out]),hBb⟩
       ·have hfin:=Lib.hid (show formed p s=false from oW fun h=>by
         have h2:jR p (aB s.moves m)=true:=kY Iu (aS.1 h).2.2.2.1 hml;rw [hf] at h2;cases h2)
        clear hf;go_wp2_with fail;refine (uV _ _ p _ (hP'.out _ hBa) (by omega)).mono ?_
        rintro e W1 ⟨rfl,hb1⟩;obtain ⟨uc1,uf1⟩:=nP hb1;have hs1:=hb1.size;have ht1:w.heap.size<W1.heap.size:=by omega
        have ht1':wr.heap.size<W1.heap.size:=by omega
        have hBb:=hBa.trans (hb1.mono hBa.size);go_wp2_with fail;refine (vw _ _ p _ (hP'.out _ hBb) (by omega)).mono ?_
        rintro e W2 ⟨rfl,hb2⟩;obtain ⟨uc2,uf2⟩:=nP hb2;have hs2:=hb2.size;have ht2:w.heap.size<W2.heap.size:=by omega
        have jh9:wr.heap.size<W2.heap.size:=by omega
        have hBc:=hBb.trans (hb2.mono hBb.size);go_wp2_with fail;go_ret
        exact ⟨aY (by rw [hfin.out]),hBc⟩
       ·have hfin:=Lib.hid (show formed p s=false from oW fun h=>by
         have h2:jR p (aB s.moves m)=true:=kY Iu (aS.1 h).2.2.2.1 hml;rw [hf] at h2;cases h2)
        clear hf;go_wp2_with fail;refine (uV _ _ p _ (hP'.out _ hBa) (by omega)).mono ?_
        rintro e W1 ⟨rfl,hb1⟩;obtain ⟨uc1,uf1⟩:=nP hb1;have hs1:=hb1.size;have ht1:w.heap.size<W1.heap.size:=by omega
        have ht1':wr.heap.size<W1.heap.size:=by omega
        have hBb:=hBa.trans (hb1.mono hBa.size);go_wp2_with fail;refine (vw _ _ p _ (hP'.out _ hBb) (by omega)).mono ?_
        rintro e W2 ⟨rfl,hb2⟩;obtain ⟨uc2,uf2⟩:=nP hb2;have hs2:=hb2.size;have ht2:w.heap.size<W2.heap.size:=by omega
        have jh9:wr.heap.size<W2.heap.size:=by omega
        have hBc:=hBb.trans (hb2.mono hBb.size);go_wp2_with fail;refine (vw _ _ p _ (hP'.out _ hBc) (by omega)).mono ?_
        rintro e W3 ⟨rfl,hb3⟩;obtain ⟨uc3,uf3⟩:=nP hb3;have hs3:=hb3.size;have ht3:w.heap.size<W3.heap.size:=by omega
        have jfB:wr.heap.size<W3.heap.size:=by omega
        have hBd:=hBc.trans (hb3.mono hBc.size);go_wp2_with fail;go_ret
        exact ⟨aY (by rw [hfin.out]),hBd⟩
       ·have hfin:=Lib.hid (show formed p s=false from oW fun h=>by
         have h2:jR p (aB s.moves m)=true:=kY Iu (aS.1 h).2.2.2.1 hml;rw [hf] at h2;cases h2)
        clear hf;go_wp2_with fail;refine (uV _ _ p _ (hP'.out _ hBa) (by omega)).mono ?_
        rintro e W1 ⟨rfl,hb1⟩;obtain ⟨uc1,uf1⟩:=nP hb1;have hs1:=hb1.size;have ht1:w.heap.size<W1.heap.size:=by omega
        have ht1':wr.heap.size<W1.heap.size:=by omega
        have hBb:=hBa.trans (hb1.mono hBa.size);go_wp2_with fail;refine (vw _ _ p _ (hP'.out _ hBb) (by omega)).mono ?_
        rintro e W2 ⟨rfl,hb2⟩;obtain ⟨uc2,uf2⟩:=nP hb2;have hs2:=hb2.size;have ht2:w.heap.size<W2.heap.size:=by omega
        have jh9:wr.heap.size<W2.heap.size:=by omega
        have hBc:=hBb.trans (hb2.mono hBb.size);go_wp2_with fail;refine (vw _ _ p _ (hP'.out _ hBc) (by omega)).mono ?_
        rintro e W3 ⟨rfl,hb3⟩;obtain ⟨uc3,uf3⟩:=nP hb3;have hs3:=hb3.size;have ht3:w.heap.size<W3.heap.size:=by omega
        have jfB:wr.heap.size<W3.heap.size:=by omega
        have hBd:=hBc.trans (hb3.mono hBc.size);go_wp2_with fail;go_ret
        exact ⟨aY (by rw [hfin.out]),hBd⟩
       ·have hfin:=Lib.hid (show formed p s=false from oW fun h=>by
         have h2:jR p (aB s.moves m)=true:=kY Iu (aS.1 h).2.2.2.1 hml;rw [hf] at h2;cases h2)
        clear hf;go_wp2_with fail;refine (uV _ _ p _ (hP'.out _ hBa) (by omega)).mono ?_
        rintro e W1 ⟨rfl,hb1⟩;obtain ⟨uc1,uf1⟩:=nP hb1;have hs1:=hb1.size;have ht1:w.heap.size<W1.heap.size:=by omega
        have ht1':wr.heap.size<W1.heap.size:=by omega
        have hBb:=hBa.trans (hb1.mono hBa.size);go_wp2_with fail;refine (vw _ _ p _ (hP'.out _ hBb) (by omega)).mono ?_
        rintro e W2 ⟨rfl,hb2⟩;obtain ⟨uc2,uf2⟩:=nP hb2;have hs2:=hb2.size;have ht2:w.heap.size<W2.heap.size:=by omega
        have jh9:wr.heap.size<W2.heap.size:=by omega
        have hBc:=hBb.trans (hb2.mono hBb.size);go_wp2_with fail;refine (vw _ _ p _ (hP'.out _ hBc) (by omega)).mono ?_
        rintro e W3 ⟨rfl,hb3⟩;obtain ⟨uc3,uf3⟩:=nP hb3;have hs3:=hb3.size;have ht3:w.heap.size<W3.heap.size:=by omega
        have jfB:wr.heap.size<W3.heap.size:=by omega
        have hBd:=hBc.trans (hb3.mono hBc.size);go_wp2_with (go_at_call 38;refine (iw _ _ _ _).mono ?_;rintro e w' ⟨rfl,rfl⟩)
        go_ret
        exact ⟨aY (by rw [hfin.out]),hBd⟩
      ·obtain rfl:m=s.moves.length:=by omega
       have hmv:=Lib.hid (uo Iu iP.out);clear iP;obtain ⟨aA0,aA1⟩:=And.intro hlb hls;rcases Yd p s with ⟨g1,hf⟩|⟨g1,g2,hf⟩|⟨g1,g2,g3,hf⟩|⟨g1,g2,g3⟩
       ·have hn1:((s.inn.length:Int)==(p.sizes.length:Int))=false:=by simp;omega
        have hm1:((s.inn.length:Int)!=(p.sizes.length:Int))=true:=by simp;omega
        have hfin:=Lib.hid hf;clear hf g1;go_wp2_with fail;go_ret
        exact ⟨aY (by rw [hfin.out]),hB⟩
       ·have hn1:((s.inn.length:Int)==(p.sizes.length:Int))=true:=by simp;omega
        have hm1:((s.inn.length:Int)!=(p.sizes.length:Int))=false:=by simp;omega
        have hn2:((s.out.length:Int)==(p.sizes.length:Int))=false:=by simp;omega
        have hm2:((s.out.length:Int)!=(p.sizes.length:Int))=true:=by simp;omega
        have hfin:=Lib.hid hf;clear hf g1 g2;go_wp2_with fail;go_ret
        exact ⟨aY (by rw [hfin.out]),hB⟩
       ·have hn1:((s.inn.length:Int)==(p.sizes.length:Int))=true:=by simp;omega
        have hm1:((s.inn.length:Int)!=(p.sizes.length:Int))=false:=by simp;omega
        have hn2:((s.out.length:Int)==(p.sizes.length:Int))=true:=by simp;omega
        have hm2:((s.out.length:Int)!=(p.sizes.length:Int))=false:=by simp;omega
        have hn3:((s.fixed.length:Int)==(p.sizes.length:Int))=false:=by simp;omega
        have hm3:((s.fixed.length:Int)!=(p.sizes.length:Int))=true:=by simp;omega
        have hfin:=Lib.hid hf;clear hf g1 g2 g3;go_wp2_with fail;go_ret
        exact ⟨aY (by rw [hfin.out]),hB⟩
       ·have hn1:((s.inn.length:Int)==(p.sizes.length:Int))=true:=by simp;omega
        have hm1:((s.inn.length:Int)!=(p.sizes.length:Int))=false:=by simp;omega
        have hn2:((s.out.length:Int)==(p.sizes.length:Int))=true:=by simp;omega
        have hm2:((s.out.length:Int)!=(p.sizes.length:Int))=false:=by simp;omega
        have hn3:((s.fixed.length:Int)==(p.sizes.length:Int))=true:=by simp;omega
        have hm3:((s.fixed.length:Int)!=(p.sizes.length:Int))=false:=by simp;omega
        have hg1:=Lib.hid g1;have hg2:=Lib.hid g2;have hg3:=Lib.hid g3;clear g1 g2 g3;go_wp2_with fail;clear hn1 hn2 hn3 hm1 hm2 hm3;go_loopw [12] (fun i wr=>∃ m:Nat,m≤p.sizes.length∧i=.int .i64 m∧(∀ j,j<m→JH s j=true)∧Below W0.heap.size W0 wr) (fun i _=>p.sizes.length - (intOf i).toNat)
        case atStart=>exact ⟨0,aT _,rfl,fun j hj=>by omega,hbw⟩
        case round=>
         clear hbw hB y0 y1 x1 x2 x3 x4 x5 x6 aV aW;obtain ⟨m,hm,rfl,pK,hbw⟩:=hrel;have iP:=Lib.hid pK;clear pK;have hB:=hb0.trans (hbw.mono hb0.size);obtain ⟨⟨y0,y1⟩,x1,x2,x3,x4,x5,x6⟩:=hK.out wr hbw;have aV:w.heap.size+1<wr.heap.size:=aZ hsz0 hbw.size;have aW:w.heap.size<wr.heap.size:=by omega
         by_cases hml:m<p.sizes.length
         ·have hm4:m<s.inn.length:=by have:=hg1.out;omega
          have hm5:m<s.out.length:=by have:=hg2.out;omega
          have hm6:m<s.fixed.length:=by have:=hg3.out;omega
          obtain ⟨o4,l4,r4⟩:=(hI.out wr hB).at_.int hm4;obtain ⟨o5,l5,r5⟩:=(hU.out wr hB).at_.int hm5;obtain ⟨o6,l6,r6⟩:=(hX.out wr hB).at_.int hm6;rcases Zx s m with ⟨g1,hf⟩|⟨g1,g2,hf⟩|⟨g1,g2,g3,hf⟩|⟨g1,g2,g3,hf⟩
          rotate_left 3
          focus
           have hf':=Lib.hid hf;clear hf;go_wp2_with (go_at_call 38;refine (iw _ _ _ _).mono ?_;rintro e w' ⟨rfl,rfl⟩)
           go_roundw
           case rel=>
            refine ⟨m+1,by omega,by go_num,fun j hj=>?_,hbw⟩
            rcases dB.1 hj with h|rfl
            ·exact iP.out j h
            ·exact hf'.out
           case measure=>simp [intOf];omega
          all_goals
           have hfin:=Lib.hid (show formed p s=false from oW fun h=>by
            have h2:=WV h hml;rw [hf] at h2;cases h2)
           clear hf;go_wp2_with (go_at_call 38;refine (iw _ _ _ _).mono ?_;rintro e w' ⟨rfl,rfl⟩)
           go_ret
           exact ⟨aY (by rw [hfin.out]),hB⟩
         ·obtain rfl:m=p.sizes.length:=by omega
          have hfin:=Lib.hid (jdV hord.out hok'.out jqx.out hmv.out ⟨hg1.out,hg2.out,hg3.out⟩ iP.out);go_wp2_with fail;go_ret
          exact ⟨aY (by rw [hfin.out]),hB⟩
end Wh
