/- Texts of the claim, joined. -/
import Derived.Lib.SliceRun
import Derived.Test.YtfhfkijmebhgmaaGreatK07
set_option maxHeartbeats 20000000
set_option maxRecDepth 100000
namespace Wh
open Go Go.RowKit Go.Proofs Tryz
theorem oW{w:World}{vs:Value}{s:aJ}(hv:lK w w.heap.size vs s):∃A0 c0 A1 c1 A2 c2 A3 c3 A4 c4 A5 c5 A6 c6,vs=.agg #[.slice A0 s.on.length c0,.slice A1 s.ak.length c1,.slice A2 s.aA.length c2,.slice A3 s.aF.length c3,.slice A4 s.gY.length c4,.slice A5 s.O.length c5,.slice A6 s.bg.length c6]/\Hid (∀W,Below w.heap.size w W->lK W W.heap.size (.agg #[.slice A0 s.on.length c0,.slice A1 s.ak.length c1,.slice A2 s.aA.length c2,.slice A3 s.aF.length c3,.slice A4 s.gY.length c4,.slice A5 s.O.length c5,.slice A6 s.bg.length c6]) s)/\Hid (∀W,Below w.heap.size w W->FW jJ W W.heap.size (.slice A0 s.on.length c0) s.on)/\Hid (∀W,Below w.heap.size w W->nJ W W.heap.size (.slice A1 s.ak.length c1) s.ak)/\Hid (∀W,Below w.heap.size w W->Sl ig W W.heap.size (.slice A2 s.aA.length c2) s.aA)/\Hid (∀W,Below w.heap.size w W->Sl nP W W.heap.size (.slice A3 s.aF.length c3) s.aF)/\Hid (∀W,Below w.heap.size w W->Sl jJ W W.heap.size (.slice A4 s.gY.length c4) s.gY)/\Hid (∀W,Below w.heap.size w W->Sl jJ W W.heap.size (.slice A5 s.O.length c5) s.O)/\Hid (∀W,Below w.heap.size w W->Sl jJ W W.heap.size (.slice A6 s.bg.length c6) s.bg)/\s.on.length<=140737488355232/\s.ak.length<=140737488355232/\s.aA.length<=140737488355232/\s.aF.length<=140737488355232/\s.gY.length<=140737488355232/\s.O.length<=140737488355232/\s.bg.length<=140737488355232:=by
 have hS:=hv;obtain⟨_,_,_,_,_,_,_,rfl,⟨A0,c0,vs0,rfl,hl0,hm0,ha0,hr0⟩,⟨A1,c1,vs1,rfl,hl1,hm1,ha1,hr1⟩,⟨A2,c2,rfl,hl2,ha2⟩,⟨A3,c3,rfl,hl3,ha3⟩,⟨A4,c4,rfl,hl4,ha4⟩,⟨A5,c5,rfl,hl5,ha5⟩,⟨A6,c6,rfl,JA,ha6⟩⟩:=hv;exact⟨A0,c0,A1,c1,A2,c2,A3,c3,A4,c4,A5,c5,A6,c6,rfl,ah (λW hW=>hS.up hW hW.size),ah (λW hW=>FW.up ⟨A0,c0,vs0,rfl,hl0,hm0,ha0,hr0⟩ hW hW.size),ah (λW hW=>nJ.up ⟨A1,c1,vs1,rfl,hl1,hm1,ha1,hr1⟩ hW hW.size),ah (λW hW=>Sl.up ⟨A2,c2,rfl,hl2,ha2⟩ hW hW.size),ah (λW hW=>Sl.up ⟨A3,c3,rfl,hl3,ha3⟩ hW hW.size),ah (λW hW=>Sl.up ⟨A4,c4,rfl,hl4,ha4⟩ hW hW.size),ah (λW hW=>Sl.up ⟨A5,c5,rfl,hl5,ha5⟩ hW hW.size),ah (λW hW=>Sl.up ⟨A6,c6,rfl,JA,ha6⟩ hW hW.size),hl0,hl1,hl2,hl3,hl4,hl5,JA⟩
theorem sN{w:World}{v:Value}{p:dA}(hp:mW w w.heap.size v p):∃Ab cb As cs,v=.agg #[.slice Ab p.bQ.length cb,.slice As p.aP.length cs]/\Hid (∀W,Below w.heap.size w W->mW W W.heap.size (.agg #[.slice Ab p.bQ.length cb,.slice As p.aP.length cs]) p)/\Hid (∀W,Below w.heap.size w W->Sl PG W W.heap.size (.slice Ab p.bQ.length cb) p.bQ)/\Hid (∀W,Below w.heap.size w W->Sl jJ W W.heap.size (.slice As p.aP.length cs) p.aP)/\p.bQ.length<=140737488355232/\p.aP.length<=140737488355232:=by
 have hP:=hp;obtain⟨_,_,rfl,⟨Ab,cb,rfl,hlb,hb⟩,⟨As,cs,rfl,hls,hs⟩⟩:=hp;exact⟨Ab,cb,As,cs,rfl,ah (λW hW=>hP.up hW hW.size),ah (λW hW=>Sl.up ⟨Ab,cb,rfl,hlb,hb⟩ hW hW.size),ah (λW hW=>Sl.up ⟨As,cs,rfl,hls,hs⟩ hW hW.size),hlb,hls⟩
theorem Eh(w:World)(p:dA)(s:aJ)(Ab:Option Addr)(cb:Nat)(As:Option Addr)(cs:Nat)(A0:Option Addr)(c0:Nat)(A1:Option Addr)(c1:Nat)(A2:Option Addr)(c2:Nat)(A3:Option Addr)(c3:Nat)(A4:Option Addr)(c4:Nat)(A5:Option Addr)(c5:Nat)(A6:Option Addr)(c6:Nat):
  ∃W0:World,(w.alloc (.cells #[.slice Ab p.bQ.length cb,.slice As p.aP.length cs] 25)).alloc (.cells #[.slice A0 s.on.length c0,.slice A1 s.ak.length c1,.slice A2 s.aA.length c2,.slice A3 s.aF.length c3,.slice A4 s.gY.length c4,.slice A5 s.O.length c5,.slice A6 s.bg.length c6] 31)=W0/\Below w.heap.size w W0/\w.heap.size+1<W0.heap.size/\w.heap.size<W0.heap.size/\Hid (W0.heap.size=w.heap.size+1+1)/\
   Hid (∀W,Below W0.heap.size W0 W->(W.cell? ⟨w.heap.size,0,none⟩=some (.slice Ab p.bQ.length cb)/\W.cell? ⟨w.heap.size,1,none⟩=some (.slice As p.aP.length cs))/\W.cell? ⟨w.heap.size+1,0,none⟩=some (.slice A0 s.on.length c0)/\W.cell? ⟨w.heap.size+1,1,none⟩=some (.slice A1 s.ak.length c1)/\W.cell? ⟨w.heap.size+1,2,none⟩=some (.slice A2 s.aA.length c2)/\W.cell? ⟨w.heap.size+1,3,none⟩=some (.slice A3 s.aF.length c3)/\W.cell? ⟨w.heap.size+1,4,none⟩=some (.slice A4 s.gY.length c4)/\W.cell? ⟨w.heap.size+1,5,none⟩=some (.slice A5 s.O.length c5)/\W.cell? ⟨w.heap.size+1,6,none⟩=some (.slice A6 s.bg.length c6)/\w.heap.size+1<W.heap.size/\w.heap.size<W.heap.size):=by
 refine⟨_,rfl,((aj _ _).alloc (au _) _).alloc (by simp) _,by simp,by simp;omega,ah (by simp),ah λW hW=>?_⟩
 have h1:iV ((w.alloc (.cells #[.slice Ab p.bQ.length cb,.slice As p.aP.length cs] 25)).alloc (.cells #[.slice A0 s.on.length c0,.slice A1 s.ak.length c1,.slice A2 s.aA.length c2,.slice A3 s.aF.length c3,.slice A4 s.gY.length c4,.slice A5 s.O.length c5,.slice A6 s.bg.length c6] 31)) w.heap.size 25 [.slice Ab p.bQ.length cb,.slice As p.aP.length cs]:=(iV.new _ _ _).alloc _;have h2:iV ((w.alloc (.cells #[.slice Ab p.bQ.length cb,.slice As p.aP.length cs] 25)).alloc (.cells #[.slice A0 s.on.length c0,.slice A1 s.ak.length c1,.slice A2 s.aA.length c2,.slice A3 s.aF.length c3,.slice A4 s.gY.length c4,.slice A5 s.O.length c5,.slice A6 s.bg.length c6] 31)) (w.heap.size+1) 31 [.slice A0 s.on.length c0,.slice A1 s.ak.length c1,.slice A2 s.aA.length c2,.slice A3 s.aF.length c3,.slice A4 s.gY.length c4,.slice A5 s.O.length c5,.slice A6 s.bg.length c6]:=by
  have:=iV.new (w.alloc (.cells #[.slice Ab p.bQ.length cb,.slice As p.aP.length cs] 25)) 31 #[.slice A0 s.on.length c0,.slice A1 s.ak.length c1,.slice A2 s.aA.length c2,.slice A3 s.aF.length c3,.slice A4 s.gY.length c4,.slice A5 s.O.length c5,.slice A6 s.bg.length c6];rw[cO]at this
  exact this
 have k1:=h1.below hW (by simp;omega)
 have k2:=h2.below hW (by simp)
 exact⟨⟨k1.cell rfl,k1.cell rfl⟩,k2.cell rfl,k2.cell rfl,k2.cell rfl,k2.cell rfl,k2.cell rfl,k2.cell rfl,k2.cell rfl,k2.lt,k1.lt⟩
theorem Lp(w:World)(s:aJ)(A0:Option Addr)(c0:Nat)(A1:Option Addr)(c1:Nat)(A2:Option Addr)(c2:Nat)(A3:Option Addr)(c3:Nat)(A4:Option Addr)(c4:Nat)(A5:Option Addr)(c5:Nat)(A6:Option Addr)(c6:Nat):
  ∃W0:World,w.alloc (.cells #[.slice A0 s.on.length c0,.slice A1 s.ak.length c1,.slice A2 s.aA.length c2,.slice A3 s.aF.length c3,.slice A4 s.gY.length c4,.slice A5 s.O.length c5,.slice A6 s.bg.length c6] 31)=W0/\Below w.heap.size w W0/\w.heap.size<W0.heap.size/\w.heap.size<W0.heap.size/\Hid (W0.heap.size=w.heap.size+1)/\
   Hid (∀W,Below W0.heap.size W0 W->(True/\True)/\W.cell? ⟨w.heap.size,0,none⟩=some (.slice A0 s.on.length c0)/\W.cell? ⟨w.heap.size,1,none⟩=some (.slice A1 s.ak.length c1)/\W.cell? ⟨w.heap.size,2,none⟩=some (.slice A2 s.aA.length c2)/\W.cell? ⟨w.heap.size,3,none⟩=some (.slice A3 s.aF.length c3)/\W.cell? ⟨w.heap.size,4,none⟩=some (.slice A4 s.gY.length c4)/\W.cell? ⟨w.heap.size,5,none⟩=some (.slice A5 s.O.length c5)/\W.cell? ⟨w.heap.size,6,none⟩=some (.slice A6 s.bg.length c6)/\w.heap.size<W.heap.size/\w.heap.size<W.heap.size):=by
 refine⟨_,rfl,(aj _ _).alloc (au _) _,by simp,by simp,ah (by simp),ah λW hW=>?_⟩
 have h2:iV (w.alloc (.cells #[.slice A0 s.on.length c0,.slice A1 s.ak.length c1,.slice A2 s.aA.length c2,.slice A3 s.aF.length c3,.slice A4 s.gY.length c4,.slice A5 s.O.length c5,.slice A6 s.bg.length c6] 31)) w.heap.size 31 [.slice A0 s.on.length c0,.slice A1 s.ak.length c1,.slice A2 s.aA.length c2,.slice A3 s.aF.length c3,.slice A4 s.gY.length c4,.slice A5 s.O.length c5,.slice A6 s.bg.length c6]:=iV.new _ _ _;have k2:=h2.below hW (by simp)
 exact⟨⟨trivial,trivial⟩,k2.cell rfl,k2.cell rfl,k2.cell rfl,k2.cell rfl,k2.cell rfl,k2.cell rfl,k2.cell rfl,k2.lt,k2.lt⟩
theorem jfv(w:World)(p:dA)(Ab:Option Addr)(cb:Nat)(As:Option Addr)(cs:Nat):
  ∃W0:World,w.alloc (.cells #[.slice Ab p.bQ.length cb,.slice As p.aP.length cs] 25)=W0/\Below w.heap.size w W0/\w.heap.size<W0.heap.size/\Hid (∀W,Below W0.heap.size W0 W->W.cell? ⟨w.heap.size,0,none⟩=some (.slice Ab p.bQ.length cb)/\W.cell? ⟨w.heap.size,1,none⟩=some (.slice As p.aP.length cs)/\w.heap.size<W.heap.size):=by
 refine⟨_,rfl,(aj _ _).alloc (au _) _,by simp,ah λW hW=>?_⟩
 have h1:iV (w.alloc (.cells #[.slice Ab p.bQ.length cb,.slice As p.aP.length cs] 25)) w.heap.size 25 [.slice Ab p.bQ.length cb,.slice As p.aP.length cs]:=iV.new _ _ _;have k1:=h1.below hW (by simp)
 exact⟨k1.cell rfl,k1.cell rfl,k1.lt⟩
theorem yD(w:World)(p:dA)(s:aJ)(Ab:Option Addr)(cb:Nat)(As:Option Addr)(cs:Nat)(A0:Option Addr)(c0:Nat)(A1:Option Addr)(c1:Nat)(A2:Option Addr)(c2:Nat)(A3:Option Addr)(c3:Nat)(A4:Option Addr)(c4:Nat)(A5:Option Addr)(c5:Nat)(A6:Option Addr)(c6:Nat):
  ∃W0:World,((w.alloc (.cells #[.slice Ab p.bQ.length cb,.slice As p.aP.length cs] 25)).alloc (.cells #[.slice A0 s.on.length c0,.slice A1 s.ak.length c1,.slice A2 s.aA.length c2,.slice A3 s.aF.length c3,.slice A4 s.gY.length c4,.slice A5 s.O.length c5,.slice A6 s.bg.length c6] 31)).alloc (.cells #[.slice none 0 0,.slice none 0 0,.slice none 0 0,.slice none 0 0,.slice none 0 0,.slice none 0 0,.slice none 0 0] 31)=W0/\Below w.heap.size w W0/\w.heap.size+1<W0.heap.size/\w.heap.size<W0.heap.size/\Hid (W0.heap.size=w.heap.size+1+1+1)/\
   Hid (∀W,Below W0.heap.size W0 W->(W.cell? ⟨w.heap.size,0,none⟩=some (.slice Ab p.bQ.length cb)/\W.cell? ⟨w.heap.size,1,none⟩=some (.slice As p.aP.length cs))/\W.cell? ⟨w.heap.size+1,0,none⟩=some (.slice A0 s.on.length c0)/\W.cell? ⟨w.heap.size+1,1,none⟩=some (.slice A1 s.ak.length c1)/\W.cell? ⟨w.heap.size+1,2,none⟩=some (.slice A2 s.aA.length c2)/\W.cell? ⟨w.heap.size+1,3,none⟩=some (.slice A3 s.aF.length c3)/\W.cell? ⟨w.heap.size+1,4,none⟩=some (.slice A4 s.gY.length c4)/\W.cell? ⟨w.heap.size+1,5,none⟩=some (.slice A5 s.O.length c5)/\W.cell? ⟨w.heap.size+1,6,none⟩=some (.slice A6 s.bg.length c6)/\w.heap.size+1<W.heap.size/\w.heap.size<W.heap.size)/\
   Hid (∀W,Below W0.heap.size W0 W->iV W (w.heap.size+1+1) 31 [.slice none 0 0,.slice none 0 0,.slice none 0 0,.slice none 0 0,.slice none 0 0,.slice none 0 0,.slice none 0 0]):=by
 obtain⟨W1,e1,b1,s1,s2,s3,hK⟩:=Eh w p s Ab cb As cs A0 c0 A1 c1 A2 c2 A3 c3 A4 c4 A5 c5 A6 c6;rw[e1];have e3:W1.heap.size=w.heap.size+1+1:=s3;have ha:Below W1.heap.size W1 (W1.alloc (.cells #[.slice none 0 0,.slice none 0 0,.slice none 0 0,.slice none 0 0,.slice none 0 0,.slice none 0 0,.slice none 0 0] 31)):=(aj _ _).alloc (au _) _;have h1:iV (W1.alloc (.cells #[.slice none 0 0,.slice none 0 0,.slice none 0 0,.slice none 0 0,.slice none 0 0,.slice none 0 0,.slice none 0 0] 31)) W1.heap.size 31 [.slice none 0 0,.slice none 0 0,.slice none 0 0,.slice none 0 0,.slice none 0 0,.slice none 0 0,.slice none 0 0]:=iV.new _ _ _;rw[e3]at h1
 refine⟨_,rfl,b1.trans (ha.mono b1.size),by simp;omega,by simp;omega,ah (by simp[e3]),ah λW hW=>?_,ah λW hW=>h1.below hW (by simp;omega)⟩
 exact uU hK W (ha.trans (hW.mono ha.size))
end Wh
namespace Wh
open Go Go.RowKit Go.Shelf Go.Proofs Tryz
attribute [local go_sem] aT
theorem WA(s:aJ)(b g:Int)(h:dZ):((h.bin==b)=false/\wX s b g h=0)\/((h.bin==b)=true/\((s.aG h.aC.toNat h.aG.toNat).dh==g)=false/\wX s b g h=0)\/
  ((h.bin==b)=true/\((s.aG h.aC.toNat h.aG.toNat).dh==g)=true/\wX s b g h=h.n):=by
 unfold wX;by_cases h1:h.bin=b<;>by_cases h2:(s.aG h.aC.toNat h.aG.toNat).dh=g<;>simp[h1,h2]
theorem WQ(b g:Int)(x:Move):((x.src==b)=false/\Aj b g x=0)\/((x.src==b)=true/\(x.dh==g)=false/\Aj b g x=0)\/((x.src==b)=true/\(x.dh==g)=true/\Aj b g x=x.n):=by
 unfold Aj;by_cases h1:x.src=b<;>by_cases h2:x.dh=g<;>simp[h1,h2]
theorem jaV(b g:Int)(x:Move):((x.dst==b)=false/\toN b g x=0)\/((x.dst==b)=true/\(x.dh==g)=false/\toN b g x=0)\/((x.dst==b)=true/\(x.dh==g)=true/\toN b g x=x.n):=by
 unfold toN;by_cases h1:x.dst=b<;>by_cases h2:x.dh=g<;>simp[h1,h2]
theorem ZA(w:World)(v:Value)(p:dA)(s:aJ)(b g:Int)(hv:lK w w.heap.size v s)(hs:o9 p s):
  Calls prog 70 #[v,.int .i64 b,.int .i64 g] w λe w'=>e=.returned (.int .i64 (bound s b g))/\Below w.heap.size w w':=by
 have hS:=hv;obtain⟨_,_,_,_,_,_,_,rfl,⟨A0,c0,vs0,rfl,hl0,hm0,ha0,hr0⟩,⟨A1,c1,vs1,rfl,hl1,hm1,ha1,hr1⟩,⟨A2,c2,rfl,hl2,ha2⟩,⟨A3,c3,rfl,hl3,ha3⟩,⟨A4,c4,rfl,hl4,ha4⟩,⟨A5,c5,rfl,hl5,ha5⟩,⟨A6,c6,rfl,JA,ha6⟩⟩:=hv;have hb0:Below w.heap.size w (w.alloc (.cells #[.slice A0 s.on.length c0,.slice A1 s.ak.length c1,.slice A2 s.aA.length c2,.slice A3 s.aF.length c3,.slice A4 s.gY.length c4,.slice A5 s.O.length c5,.slice A6 s.bg.length c6] 31)):=(aj _ _).alloc (au _) _;have lg:w.heap.size<(w.alloc (.cells #[.slice A0 s.on.length c0,.slice A1 s.ak.length c1,.slice A2 s.aA.length c2,.slice A3 s.aF.length c3,.slice A4 s.gY.length c4,.slice A5 s.O.length c5,.slice A6 s.bg.length c6] 31)).heap.size:=by simp
 have hz0:(w.alloc (.cells #[.slice A0 s.on.length c0,.slice A1 s.ak.length c1,.slice A2 s.aA.length c2,.slice A3 s.aF.length c3,.slice A4 s.gY.length c4,.slice A5 s.O.length c5,.slice A6 s.bg.length c6] 31)).cell? ⟨w.heap.size,1,none⟩=some (.slice A1 s.ak.length c1)/\(w.alloc (.cells #[.slice A0 s.on.length c0,.slice A1 s.ak.length c1,.slice A2 s.aA.length c2,.slice A3 s.aF.length c3,.slice A4 s.gY.length c4,.slice A5 s.O.length c5,.slice A6 s.bg.length c6] 31)).cell? ⟨w.heap.size,2,none⟩=some (.slice A2 s.aA.length c2)/\(w.alloc (.cells #[.slice A0 s.on.length c0,.slice A1 s.ak.length c1,.slice A2 s.aA.length c2,.slice A3 s.aF.length c3,.slice A4 s.gY.length c4,.slice A5 s.O.length c5,.slice A6 s.bg.length c6] 31)).cell? ⟨w.heap.size,3,none⟩=some (.slice A3 s.aF.length c3):=by simp
 have ho1:∀W,Below w.heap.size w W->nJ W W.heap.size (.slice A1 s.ak.length c1) s.ak:=λW hW=>nJ.up ⟨A1,c1,vs1,rfl,hl1,hm1,ha1,hr1⟩ hW hW.size
 have jis:=ah ho1;have jne:=su hs.aA;have hs8:=hs.vJ;have hs4:=hs.qH;have zy:=ah hs;clear ho1 hs;go_enter func70,ntmps70
 go_wp2_with fail;generalize hW0:w.alloc (.cells #[.slice A0 s.on.length c0,.slice A1 s.ak.length c1,.slice A2 s.aA.length c2,.slice A3 s.aF.length c3,.slice A4 s.gY.length c4,.slice A5 s.O.length c5,.slice A6 s.bg.length c6] 31)=W0 at hb0 lg hz0 ⊢
 obtain⟨z1,z2,z3⟩:=hz0;clear hW0;go_loopw[7,8,9] (λn i _ wr=>∃k:Nat,k<=s.aA.length/\i=.int .i64 k/\n=.int .i64 (MC s b g k)/\Below W0.heap.size W0 wr) (λn i _ _=>s.aA.length - (RowKit.intOf i).toNat)
 case atStart=>exact⟨0,aK _,rfl,rfl,aj _ _⟩
 case round=>
  obtain⟨k,hk,rfl,rfl,hbw⟩:=hrel;obtain⟨r1,r2⟩:=DF zy.O b g k;have y1:=(hbw.cell (p:=⟨w.heap.size,1,none⟩) lg).trans z1;have y2:=(hbw.cell (p:=⟨w.heap.size,2,none⟩) lg).trans z2;have y3:=(hbw.cell (p:=⟨w.heap.size,3,none⟩) lg).trans z3;have hbz:w.heap.size<wr.heap.size:=aI lg hbw.size;have hB:=hb0.trans (hbw.mono hb0.size);by_cases hlt:k<s.aA.length
  ·obtain⟨hok,LG,b0,b1,b2,b3⟩:=(ha2.up hB hB.size).hold hlt;obtain⟨⟨i1,i2⟩,⟨i3,i4⟩,_,i7,i8⟩:=zy.O.yR hlt;have hol:(hold s.aA k).aC.toNat<s.ak.length:=by omega
   obtain⟨A',c',Jh,Gs,_,d1,hsl⟩:=(jis.O wr hB).aC hol;have hll:(hold s.aA k).aG.toNat<(aU s.ak (hold s.aA k).aC.toNat).aH.length:=by unfold aJ.aC at i4;omega
   obtain⟨hok2,PD,e0,_,_,_⟩:=hsl.at_.aG hll;have zU:=TU (s:=s) (b:=b) (g:=g) hlt;have i4':(hold s.aA k).aG<((aU s.ak (hold s.aA k).aC.toNat).aH.length:Int):=i4;have hba:Below W0.heap.size W0 (wr.alloc (.cells #[.int .i64 (hold s.aA k).aC,.int .i64 (hold s.aA k).aG,.int .i64 (hold s.aA k).bin,.int .i64 (hold s.aA k).n] 46)):=hbw.alloc hbw.size _;have hca:wr.heap.size<(wr.alloc (.cells #[.int .i64 (hold s.aA k).aC,.int .i64 (hold s.aA k).aG,.int .i64 (hold s.aA k).bin,.int .i64 (hold s.aA k).n] 46)).heap.size:=by simp
   have q0:=λo d os=>bY (w:=wr.alloc (.cells #[.int .i64 (hold s.aA k).aC,.int .i64 (hold s.aA k).aG,.int .i64 (hold s.aA k).bin,.int .i64 (hold s.aA k).n] 46)) (b:=w.heap.size) (by simp;omega) o d os
   have q1:=λo d os=>bY (w:=wr.alloc (.cells #[.int .i64 (hold s.aA k).aC,.int .i64 (hold s.aA k).aG,.int .i64 (hold s.aA k).bin,.int .i64 (hold s.aA k).n] 46)) (b:=wr.heap.size) hca o d os
   have q2:=λo d os=>bY (w:=wr.alloc (.cells #[.int .i64 (hold s.aA k).aC,.int .i64 (hold s.aA k).aG,.int .i64 (hold s.aA k).bin,.int .i64 (hold s.aA k).n] 46)) (b:=jd A1) (by simp;omega) o d os
   have q3:=λo d os=>bY (w:=wr.alloc (.cells #[.int .i64 (hold s.aA k).aC,.int .i64 (hold s.aA k).aG,.int .i64 (hold s.aA k).bin,.int .i64 (hold s.aA k).n] 46)) (b:=jd A') (by simp;omega) o d os
   have hl:gK (aU s.ak (hold s.aA k).aC.toNat).aH (hold s.aA k).aG.toNat=s.aG (hold s.aA k).aC.toNat (hold s.aA k).aG.toNat:=rfl;rw[hl]at e0
   have jtv:=ah hll;clear i4 hl hll;rcases WA s b g (hold s.aA k)with⟨g1,gh⟩|⟨g1,g2,gh⟩|⟨g1,g2,gh⟩
   all_goals
    rw[gh]at zU
    have hsu:=ah zU;clear zU gh;go_wp2_with fail;refine dG (by kernel_rfl) (by kernel_rfl) ?_
    repeat(go_big_quiet_step (fail))
    refine wpQuiet_nil ?_
    intro W2 hw';have hb2:=dD hw';clear hw';obtain⟨hc2,hf2⟩:=xH hb2;clear q0 q1 q2 q3;go_wp2_with fail;go_roundw
    case rel=>exact⟨k+1,by omega,by go_num,by rw[hsu.O]<;>first|rfl|simp,hba.trans (hb2.mono hba.size)⟩
    case measure=>simp[RowKit.intOf];omega
  ·obtain rfl:k=s.aA.length:=by omega
   rw[Gq]at r1 r2 ⊢
   go_wp2_with fail;go_loopw[7,10] (λn i wr=>∃k:Nat,k<=s.aF.length/\i=.int .i64 k/\n=.int .i64 (pK s b g+FD s.aF b g k)/\Below W0.heap.size W0 wr) (λn i _=>s.aF.length - (RowKit.intOf i).toNat)
   case atStart=>exact⟨0,aK _,rfl,by unfold FD;simp,hbw⟩
   case round=>
    clear hbw y1 y2 y3 hbz hB;obtain⟨k,hk,rfl,rfl,hbw⟩:=hrel;obtain⟨t1,t2⟩:=GL zy.O b g k;have y3:=(hbw.cell (p:=⟨w.heap.size,3,none⟩) lg).trans z3;have hbz:w.heap.size<wr.heap.size:=aI lg hbw.size;have hB:=hb0.trans (hbw.mono hb0.size);by_cases hlt:k<s.aF.length
    ·obtain⟨hok,LG,b0,b1,b2,b3⟩:=(ha3.up hB hB.size).move hlt;obtain⟨_,_,_,_,i7,i8⟩:=zy.O.bH hlt;have zU:=RH (b:=b) (g:=g) hlt;rcases WQ b g (bH s.aF k)with⟨g1,gh⟩|⟨g1,g2,gh⟩|⟨g1,g2,gh⟩
     all_goals
      rw[gh]at zU
      have hsu:=ah zU;clear zU gh;go_wp2_with fail;go_roundw
      case rel=>exact⟨k+1,by omega,by go_num,by rw[hsu.O]<;>first|rfl|(simp<;>omega),hbw⟩
      case measure=>simp[RowKit.intOf];omega
    ·obtain rfl:k=s.aF.length:=by omega
     have kE:=JZ s.aF b g;rw[kE]at t1 t2 ⊢
     clear kE;go_wp2_with fail;go_ret
     exact⟨rfl,hB⟩
theorem Zt(w:World)(v:Value)(p:dA)(s:aJ)(b g:Int)(hv:lK w w.heap.size v s)(hs:o9 p s):
  Calls prog 62 #[v,.int .i64 b,.int .i64 g] w λe w'=>e=.returned (.int .i64 (bound s b g))/\Below w.heap.size w w':=by
 have hS:=hv;obtain⟨_,_,_,_,_,_,_,rfl,⟨A0,c0,vs0,rfl,hl0,hm0,ha0,hr0⟩,⟨A1,c1,vs1,rfl,hl1,hm1,ha1,hr1⟩,⟨A2,c2,rfl,hl2,ha2⟩,⟨A3,c3,rfl,hl3,ha3⟩,⟨A4,c4,rfl,hl4,ha4⟩,⟨A5,c5,rfl,hl5,ha5⟩,⟨A6,c6,rfl,JA,ha6⟩⟩:=hv;have hb0:Below w.heap.size w (w.alloc (.cells #[.slice A0 s.on.length c0,.slice A1 s.ak.length c1,.slice A2 s.aA.length c2,.slice A3 s.aF.length c3,.slice A4 s.gY.length c4,.slice A5 s.O.length c5,.slice A6 s.bg.length c6] 31)):=(aj _ _).alloc (au _) _;have lg:w.heap.size<(w.alloc (.cells #[.slice A0 s.on.length c0,.slice A1 s.ak.length c1,.slice A2 s.aA.length c2,.slice A3 s.aF.length c3,.slice A4 s.gY.length c4,.slice A5 s.O.length c5,.slice A6 s.bg.length c6] 31)).heap.size:=by simp
 have hz0:(w.alloc (.cells #[.slice A0 s.on.length c0,.slice A1 s.ak.length c1,.slice A2 s.aA.length c2,.slice A3 s.aF.length c3,.slice A4 s.gY.length c4,.slice A5 s.O.length c5,.slice A6 s.bg.length c6] 31)).cell? ⟨w.heap.size,1,none⟩=some (.slice A1 s.ak.length c1)/\(w.alloc (.cells #[.slice A0 s.on.length c0,.slice A1 s.ak.length c1,.slice A2 s.aA.length c2,.slice A3 s.aF.length c3,.slice A4 s.gY.length c4,.slice A5 s.O.length c5,.slice A6 s.bg.length c6] 31)).cell? ⟨w.heap.size,2,none⟩=some (.slice A2 s.aA.length c2)/\(w.alloc (.cells #[.slice A0 s.on.length c0,.slice A1 s.ak.length c1,.slice A2 s.aA.length c2,.slice A3 s.aF.length c3,.slice A4 s.gY.length c4,.slice A5 s.O.length c5,.slice A6 s.bg.length c6] 31)).cell? ⟨w.heap.size,3,none⟩=some (.slice A3 s.aF.length c3):=by simp
 have ho1:∀W,Below w.heap.size w W->nJ W W.heap.size (.slice A1 s.ak.length c1) s.ak:=λW hW=>nJ.up ⟨A1,c1,vs1,rfl,hl1,hm1,ha1,hr1⟩ hW hW.size
 have jis:=ah ho1;have jne:=su hs.aA;have hs8:=hs.vJ;have hs4:=hs.qH;have zy:=ah hs;clear ho1 hs;go_enter func62,ntmps62
 go_wp2_with fail;generalize hW0:w.alloc (.cells #[.slice A0 s.on.length c0,.slice A1 s.ak.length c1,.slice A2 s.aA.length c2,.slice A3 s.aF.length c3,.slice A4 s.gY.length c4,.slice A5 s.O.length c5,.slice A6 s.bg.length c6] 31)=W0 at hb0 lg hz0 ⊢
 obtain⟨z1,z2,z3⟩:=hz0;clear hW0;go_loopw[7,15,9] (λn i _ wr=>∃k:Nat,k<=s.aA.length/\i=.int .i64 k/\n=.int .i64 (MC s b g k)/\Below W0.heap.size W0 wr) (λn i _ _=>s.aA.length - (RowKit.intOf i).toNat)
 case atStart=>exact⟨0,aK _,rfl,rfl,aj _ _⟩
 case round=>
  obtain⟨k,hk,rfl,rfl,hbw⟩:=hrel;obtain⟨r1,r2⟩:=DF zy.O b g k;have y1:=(hbw.cell (p:=⟨w.heap.size,1,none⟩) lg).trans z1;have y2:=(hbw.cell (p:=⟨w.heap.size,2,none⟩) lg).trans z2;have y3:=(hbw.cell (p:=⟨w.heap.size,3,none⟩) lg).trans z3;have hbz:w.heap.size<wr.heap.size:=aI lg hbw.size;have hB:=hb0.trans (hbw.mono hb0.size);by_cases hlt:k<s.aA.length
  ·obtain⟨hok,LG,b0,b1,b2,b3⟩:=(ha2.up hB hB.size).hold hlt;obtain⟨⟨i1,i2⟩,⟨i3,i4⟩,_,i7,i8⟩:=zy.O.yR hlt;have hol:(hold s.aA k).aC.toNat<s.ak.length:=by omega
   obtain⟨A',c',Jh,Gs,_,d1,hsl⟩:=(jis.O wr hB).aC hol;have hll:(hold s.aA k).aG.toNat<(aU s.ak (hold s.aA k).aC.toNat).aH.length:=by unfold aJ.aC at i4;omega
   obtain⟨hok2,PD,e0,_,_,_⟩:=hsl.at_.aG hll;have zU:=TU (s:=s) (b:=b) (g:=g) hlt;have i4':(hold s.aA k).aG<((aU s.ak (hold s.aA k).aC.toNat).aH.length:Int):=i4;have hba:Below W0.heap.size W0 (wr.alloc (.cells #[.int .i64 (hold s.aA k).aC,.int .i64 (hold s.aA k).aG,.int .i64 (hold s.aA k).bin,.int .i64 (hold s.aA k).n] 46)):=hbw.alloc hbw.size _;have hca:wr.heap.size<(wr.alloc (.cells #[.int .i64 (hold s.aA k).aC,.int .i64 (hold s.aA k).aG,.int .i64 (hold s.aA k).bin,.int .i64 (hold s.aA k).n] 46)).heap.size:=by simp
   have q0:=λo d os=>bY (w:=wr.alloc (.cells #[.int .i64 (hold s.aA k).aC,.int .i64 (hold s.aA k).aG,.int .i64 (hold s.aA k).bin,.int .i64 (hold s.aA k).n] 46)) (b:=w.heap.size) (by simp;omega) o d os
   have q1:=λo d os=>bY (w:=wr.alloc (.cells #[.int .i64 (hold s.aA k).aC,.int .i64 (hold s.aA k).aG,.int .i64 (hold s.aA k).bin,.int .i64 (hold s.aA k).n] 46)) (b:=wr.heap.size) hca o d os
   have q2:=λo d os=>bY (w:=wr.alloc (.cells #[.int .i64 (hold s.aA k).aC,.int .i64 (hold s.aA k).aG,.int .i64 (hold s.aA k).bin,.int .i64 (hold s.aA k).n] 46)) (b:=jd A1) (by simp;omega) o d os
   have q3:=λo d os=>bY (w:=wr.alloc (.cells #[.int .i64 (hold s.aA k).aC,.int .i64 (hold s.aA k).aG,.int .i64 (hold s.aA k).bin,.int .i64 (hold s.aA k).n] 46)) (b:=jd A') (by simp;omega) o d os
   have hl:gK (aU s.ak (hold s.aA k).aC.toNat).aH (hold s.aA k).aG.toNat=s.aG (hold s.aA k).aC.toNat (hold s.aA k).aG.toNat:=rfl;rw[hl]at e0
   have jtv:=ah hll;clear i4 hl hll;rcases WA s b g (hold s.aA k)with⟨g1,gh⟩|⟨g1,g2,gh⟩|⟨g1,g2,gh⟩
   all_goals
    rw[gh]at zU
    have hsu:=ah zU;clear zU gh;go_wp2_with fail;refine dG (by kernel_rfl) (by kernel_rfl) ?_
    repeat(go_big_quiet_step (fail))
    refine wpQuiet_nil ?_
    intro W2 hw';have hb2:=dD hw';clear hw';obtain⟨hc2,hf2⟩:=xH hb2;clear q0 q1 q2 q3;go_wp2_with fail;go_roundw
    case rel=>exact⟨k+1,by omega,by go_num,by rw[hsu.O]<;>first|rfl|simp,hba.trans (hb2.mono hba.size)⟩
    case measure=>simp[RowKit.intOf];omega
  ·obtain rfl:k=s.aA.length:=by omega
   rw[Gq]at r1 r2 ⊢
   go_wp2_with fail;go_loopw[7,47,11] (λn i _ wr=>∃k:Nat,k<=s.aF.length/\i=.int .i64 k/\n=.int .i64 (pK s b g+FD s.aF b g k)/\Below W0.heap.size W0 wr) (λn i _ _=>s.aF.length - (RowKit.intOf i).toNat)
   case atStart=>exact⟨0,aK _,rfl,by unfold FD;simp,hbw⟩
   case round=>
    clear hbw y1 y2 y3 hbz hB;obtain⟨k,hk,rfl,rfl,hbw⟩:=hrel;obtain⟨t1,t2⟩:=GL zy.O b g k;have y3:=(hbw.cell (p:=⟨w.heap.size,3,none⟩) lg).trans z3;have hbz:w.heap.size<wr.heap.size:=aI lg hbw.size;have hB:=hb0.trans (hbw.mono hb0.size);by_cases hlt:k<s.aF.length
    ·obtain⟨hok,LG,b0,b1,b2,b3⟩:=(ha3.up hB hB.size).move hlt;obtain⟨_,_,_,_,i7,i8⟩:=zy.O.bH hlt;have zU:=RH (b:=b) (g:=g) hlt;rcases WQ b g (bH s.aF k)with⟨g1,gh⟩|⟨g1,g2,gh⟩|⟨g1,g2,gh⟩
     all_goals
      rw[gh]at zU
      have hsu:=ah zU;clear zU gh;go_wp2_with fail;go_roundw
      case rel=>exact⟨k+1,by omega,by go_num,by rw[hsu.O]<;>first|rfl|(simp<;>omega),hbw.alloc hbw.size (.cells #[.int .i64 (bH s.aF k).dh,.int .i64 (bH s.aF k).src,.int .i64 (bH s.aF k).dst,.int .i64 (bH s.aF k).n] 48)⟩
      case measure=>simp[RowKit.intOf];omega
    ·obtain rfl:k=s.aF.length:=by omega
     have kE:=JZ s.aF b g;rw[kE]at t1 t2 ⊢
     clear kE;go_wp2_with fail;go_ret
     exact⟨rfl,hB⟩
theorem LU(w:World)(v:Value)(p:dA)(s:aJ)(b g:Int)(hv:lK w w.heap.size v s)(hs:o9 p s):
  Calls prog 107 #[v,.int .i64 b,.int .i64 g] w λe w'=>e=.returned (.int .i64 (iq s b g))/\Below w.heap.size w w':=by
 have hS:=hv;obtain⟨_,_,_,_,_,_,_,rfl,⟨A0,c0,vs0,rfl,hl0,hm0,ha0,hr0⟩,⟨A1,c1,vs1,rfl,hl1,hm1,ha1,hr1⟩,⟨A2,c2,rfl,hl2,ha2⟩,⟨A3,c3,rfl,hl3,ha3⟩,⟨A4,c4,rfl,hl4,ha4⟩,⟨A5,c5,rfl,hl5,ha5⟩,⟨A6,c6,rfl,JA,ha6⟩⟩:=hv;have hb0:Below w.heap.size w (w.alloc (.cells #[.slice A0 s.on.length c0,.slice A1 s.ak.length c1,.slice A2 s.aA.length c2,.slice A3 s.aF.length c3,.slice A4 s.gY.length c4,.slice A5 s.O.length c5,.slice A6 s.bg.length c6] 31)):=(aj _ _).alloc (au _) _;have lg:w.heap.size<(w.alloc (.cells #[.slice A0 s.on.length c0,.slice A1 s.ak.length c1,.slice A2 s.aA.length c2,.slice A3 s.aF.length c3,.slice A4 s.gY.length c4,.slice A5 s.O.length c5,.slice A6 s.bg.length c6] 31)).heap.size:=by simp
 have hz0:(w.alloc (.cells #[.slice A0 s.on.length c0,.slice A1 s.ak.length c1,.slice A2 s.aA.length c2,.slice A3 s.aF.length c3,.slice A4 s.gY.length c4,.slice A5 s.O.length c5,.slice A6 s.bg.length c6] 31)).cell? ⟨w.heap.size,1,none⟩=some (.slice A1 s.ak.length c1)/\(w.alloc (.cells #[.slice A0 s.on.length c0,.slice A1 s.ak.length c1,.slice A2 s.aA.length c2,.slice A3 s.aF.length c3,.slice A4 s.gY.length c4,.slice A5 s.O.length c5,.slice A6 s.bg.length c6] 31)).cell? ⟨w.heap.size,2,none⟩=some (.slice A2 s.aA.length c2)/\(w.alloc (.cells #[.slice A0 s.on.length c0,.slice A1 s.ak.length c1,.slice A2 s.aA.length c2,.slice A3 s.aF.length c3,.slice A4 s.gY.length c4,.slice A5 s.O.length c5,.slice A6 s.bg.length c6] 31)).cell? ⟨w.heap.size,3,none⟩=some (.slice A3 s.aF.length c3):=by simp
 have ho1:∀W,Below w.heap.size w W->nJ W W.heap.size (.slice A1 s.ak.length c1) s.ak:=λW hW=>nJ.up ⟨A1,c1,vs1,rfl,hl1,hm1,ha1,hr1⟩ hW hW.size
 have jis:=ah ho1;have jne:=su hs.aA;have hs8:=hs.vJ;have hs4:=hs.qH;have zy:=ah hs;clear ho1 hs;go_enter func107,ntmps107
 go_wp2_with fail;generalize hW0:w.alloc (.cells #[.slice A0 s.on.length c0,.slice A1 s.ak.length c1,.slice A2 s.aA.length c2,.slice A3 s.aF.length c3,.slice A4 s.gY.length c4,.slice A5 s.O.length c5,.slice A6 s.bg.length c6] 31)=W0 at hb0 lg hz0 ⊢
 obtain⟨z1,z2,z3⟩:=hz0;clear hW0;go_loopw[7,8] (λn i wr=>∃k:Nat,k<=s.aF.length/\i=.int .i64 k/\n=.int .i64 (FI s.aF b g k)/\Below W0.heap.size W0 wr) (λn i _=>s.aF.length - (RowKit.intOf i).toNat)
 case atStart=>exact⟨0,aK _,rfl,rfl,aj _ _⟩
 case round=>
  skip
  obtain⟨k,hk,rfl,rfl,hbw⟩:=hrel;obtain⟨t1,t2⟩:=Ju zy.O b g k;have y3:=(hbw.cell (p:=⟨w.heap.size,3,none⟩) lg).trans z3;have hbz:w.heap.size<wr.heap.size:=aI lg hbw.size;have hB:=hb0.trans (hbw.mono hb0.size);by_cases hlt:k<s.aF.length
  ·obtain⟨hok,LG,b0,b1,b2,b3⟩:=(ha3.up hB hB.size).move hlt;obtain⟨_,_,_,_,i7,i8⟩:=zy.O.bH hlt;have zU:=Qc (b:=b) (g:=g) hlt;rcases jaV b g (bH s.aF k)with⟨g1,gh⟩|⟨g1,g2,gh⟩|⟨g1,g2,gh⟩
   all_goals
    rw[gh]at zU
    have hsu:=ah zU;clear zU gh;go_wp2_with fail;go_roundw
    case rel=>exact⟨k+1,by omega,by go_num,by rw[hsu.O]<;>first|rfl|(simp<;>omega),hbw⟩
    case measure=>simp[RowKit.intOf];omega
  ·obtain rfl:k=s.aF.length:=by omega
   have kE:=MP s.aF b g;rw[kE]at t1 t2 ⊢
   clear kE;go_wp2_with fail;go_ret
   exact⟨rfl,hB⟩
theorem UM(w:World)(v:Value)(p:dA)(s:aJ)(b g:Int)(hv:lK w w.heap.size v s)(hs:o9 p s):
  Calls prog 94 #[v,.int .i64 b,.int .i64 g] w λe w'=>e=.returned (.int .i64 (iq s b g))/\Below w.heap.size w w':=by
 have hS:=hv;obtain⟨_,_,_,_,_,_,_,rfl,⟨A0,c0,vs0,rfl,hl0,hm0,ha0,hr0⟩,⟨A1,c1,vs1,rfl,hl1,hm1,ha1,hr1⟩,⟨A2,c2,rfl,hl2,ha2⟩,⟨A3,c3,rfl,hl3,ha3⟩,⟨A4,c4,rfl,hl4,ha4⟩,⟨A5,c5,rfl,hl5,ha5⟩,⟨A6,c6,rfl,JA,ha6⟩⟩:=hv;have hb0:Below w.heap.size w (w.alloc (.cells #[.slice A0 s.on.length c0,.slice A1 s.ak.length c1,.slice A2 s.aA.length c2,.slice A3 s.aF.length c3,.slice A4 s.gY.length c4,.slice A5 s.O.length c5,.slice A6 s.bg.length c6] 31)):=(aj _ _).alloc (au _) _;have lg:w.heap.size<(w.alloc (.cells #[.slice A0 s.on.length c0,.slice A1 s.ak.length c1,.slice A2 s.aA.length c2,.slice A3 s.aF.length c3,.slice A4 s.gY.length c4,.slice A5 s.O.length c5,.slice A6 s.bg.length c6] 31)).heap.size:=by simp
 have hz0:(w.alloc (.cells #[.slice A0 s.on.length c0,.slice A1 s.ak.length c1,.slice A2 s.aA.length c2,.slice A3 s.aF.length c3,.slice A4 s.gY.length c4,.slice A5 s.O.length c5,.slice A6 s.bg.length c6] 31)).cell? ⟨w.heap.size,1,none⟩=some (.slice A1 s.ak.length c1)/\(w.alloc (.cells #[.slice A0 s.on.length c0,.slice A1 s.ak.length c1,.slice A2 s.aA.length c2,.slice A3 s.aF.length c3,.slice A4 s.gY.length c4,.slice A5 s.O.length c5,.slice A6 s.bg.length c6] 31)).cell? ⟨w.heap.size,2,none⟩=some (.slice A2 s.aA.length c2)/\(w.alloc (.cells #[.slice A0 s.on.length c0,.slice A1 s.ak.length c1,.slice A2 s.aA.length c2,.slice A3 s.aF.length c3,.slice A4 s.gY.length c4,.slice A5 s.O.length c5,.slice A6 s.bg.length c6] 31)).cell? ⟨w.heap.size,3,none⟩=some (.slice A3 s.aF.length c3):=by simp
 have ho1:∀W,Below w.heap.size w W->nJ W W.heap.size (.slice A1 s.ak.length c1) s.ak:=λW hW=>nJ.up ⟨A1,c1,vs1,rfl,hl1,hm1,ha1,hr1⟩ hW hW.size
 have jis:=ah ho1;have jne:=su hs.aA;have hs8:=hs.vJ;have hs4:=hs.qH;have zy:=ah hs;clear ho1 hs;go_enter func94,ntmps94
 go_wp2_with fail;generalize hW0:w.alloc (.cells #[.slice A0 s.on.length c0,.slice A1 s.ak.length c1,.slice A2 s.aA.length c2,.slice A3 s.aF.length c3,.slice A4 s.gY.length c4,.slice A5 s.O.length c5,.slice A6 s.bg.length c6] 31)=W0 at hb0 lg hz0 ⊢
 obtain⟨z1,z2,z3⟩:=hz0;clear hW0;go_loopw[7,13,9] (λn i _ wr=>∃k:Nat,k<=s.aF.length/\i=.int .i64 k/\n=.int .i64 (FI s.aF b g k)/\Below W0.heap.size W0 wr) (λn i _ _=>s.aF.length - (RowKit.intOf i).toNat)
 case atStart=>exact⟨0,aK _,rfl,rfl,aj _ _⟩
 case round=>
  skip
  obtain⟨k,hk,rfl,rfl,hbw⟩:=hrel;obtain⟨t1,t2⟩:=Ju zy.O b g k;have y3:=(hbw.cell (p:=⟨w.heap.size,3,none⟩) lg).trans z3;have hbz:w.heap.size<wr.heap.size:=aI lg hbw.size;have hB:=hb0.trans (hbw.mono hb0.size);by_cases hlt:k<s.aF.length
  ·obtain⟨hok,LG,b0,b1,b2,b3⟩:=(ha3.up hB hB.size).move hlt;obtain⟨_,_,_,_,i7,i8⟩:=zy.O.bH hlt;have zU:=Qc (b:=b) (g:=g) hlt;rcases jaV b g (bH s.aF k)with⟨g1,gh⟩|⟨g1,g2,gh⟩|⟨g1,g2,gh⟩
   all_goals
    rw[gh]at zU
    have hsu:=ah zU;clear zU gh;go_wp2_with fail;go_roundw
    case rel=>exact⟨k+1,by omega,by go_num,by rw[hsu.O]<;>first|rfl|(simp<;>omega),hbw.alloc hbw.size (.cells #[.int .i64 (bH s.aF k).dh,.int .i64 (bH s.aF k).src,.int .i64 (bH s.aF k).dst,.int .i64 (bH s.aF k).n] 48)⟩
    case measure=>simp[RowKit.intOf];omega
  ·obtain rfl:k=s.aF.length:=by omega
   have kE:=MP s.aF b g;rw[kE]at t1 t2 ⊢
   clear kE;go_wp2_with fail;go_ret
   exact⟨rfl,hB⟩
end Wh
namespace Wh
open Go Go.RowKit Go.Shelf Go.Proofs Tryz
attribute [local go_sem] aT
theorem LX(n lo hi:Int)(w:World):
  Calls prog 147 #[.int .i64 n,.int .i64 lo,.int .i64 hi] w λe w'=>e=.returned (.bool (cZ n lo hi))/\w=w':=by
 go_enter func147,ntmps147
 by_cases h1:lo<=n
 ·by_cases h2:n<=hi
  ·go_wp2
   go_ret
   exact⟨by simp[cZ,h1,h2],rfl⟩
  ·go_wp2
   go_ret
   exact⟨by simp[cZ];omega,rfl⟩
 ·go_wp2
  go_ret
  exact⟨by simp[cZ];omega,rfl⟩
theorem jkt(b:Bin)(W:World):
  Calls prog 149 #[jj8 b] W λe W'=>e=.returned (.bool (!BX b))/\Below W.heap.size W W':=by
 unfold jj8;go_enter func149,ntmps149
 rcases jgG b with⟨h1,h⟩|⟨h1,h2,h⟩|⟨h1,h2,h3,h⟩|⟨h1,h2,h3,h⟩
 ·go_wp2_with (go_at_call 147;refine(LX _ _ _ _).mono ?_;rintro e w' ⟨rfl,rfl⟩)
  go_ret
  exact⟨fK (by rw[h];rfl),(aj _ _).alloc (au _) _⟩
 ·go_wp2_with (go_at_call 147;refine(LX _ _ _ _).mono ?_;rintro e w' ⟨rfl,rfl⟩)
  go_ret
  exact⟨fK (by rw[h];rfl),(aj _ _).alloc (au _) _⟩
 ·go_wp2_with (go_at_call 147;refine(LX _ _ _ _).mono ?_;rintro e w' ⟨rfl,rfl⟩)
  go_ret
  exact⟨fK (by rw[h];rfl),(aj _ _).alloc (au _) _⟩
 ·go_wp2_with (go_at_call 147;refine(LX _ _ _ _).mono ?_;rintro e w' ⟨rfl,rfl⟩)
  go_ret
  exact⟨fK (by rw[h];simp;omega),(aj _ _).alloc (au _) _⟩
theorem jgt:Enters prog 149:=enters_of func149 (by kernel_rfl) rfl
theorem OZ(w:World)(v:Value)(p:dA)(hp:mW w w.heap.size v p):
  Calls prog 87 #[v] w λe w'=>e=.returned (.int .i64 (gQ p))/\Below w.heap.size w w':=by
 obtain⟨_,_,rfl,⟨Ab,cb,rfl,hlb,hb⟩,⟨As,cs,rfl,hls,hs⟩⟩:=hp;have hb0:Below w.heap.size w (w.alloc (.cells #[.slice Ab p.bQ.length cb,.slice As p.aP.length cs] 25)):=(aj _ _).alloc (au _) _;go_enter func87,ntmps87
 cases h1:cZ p.bQ.length 1 6
 ·go_wp2_with (go_at_call 147;refine(LX _ _ _ _).mono ?_;rintro e w' ⟨rfl,rfl⟩)
  go_ret
  exact⟨iF (GN (.inl h1)).symm,hb0⟩
 cases h2:cZ p.aP.length 1 3
 ·go_wp2_with (go_at_call 147;refine(LX _ _ _ _).mono ?_;rintro e w' ⟨rfl,rfl⟩)
  go_ret
  exact⟨iF (GN (.inr h2)).symm,hb0⟩
 have wK:0<p.aP.length:=by have:=dV.1 h2;omega
 have hsb:∀W,Below w.heap.size w W->Sl PG W W.heap.size (.slice Ab p.bQ.length cb) p.bQ:=λW hW=>Sl.up ⟨Ab,cb,rfl,hlb,hb⟩ hW hW.size
 have hss:∀W,Below w.heap.size w W->Sl jJ W W.heap.size (.slice As p.aP.length cs) p.aP:=λW hW=>Sl.up ⟨As,cs,rfl,hls,hs⟩ hW hW.size
 go_wp2_with (go_at_call 147;refine(LX _ _ _ _).mono ?_;rintro e w' ⟨rfl,rfl⟩)
 refine(UF _ _ p.bQ 149 #[] (λb=>!BX b) jgt (hsb _ hb0) (λk _ W _=>jkt _ W)).mono ?_
 rintro e W1 ⟨rfl,hb1⟩;have hbw:=hb0.trans (hb1.mono (by simp))
 have hsz:=hb1.size;obtain⟨hc1,hf1⟩:=xH hb1;cases hbad:(p.bQ.any λb=>!BX b)
 ·go_wp2_with fail;refine(jg1 _ _ p.aP (hss _ hbw) wK).mono ?_
  rintro e w' ⟨rfl,rfl⟩;by_cases hlo:CY p.aP<1
  ·go_wp2_with fail;go_ret
   exact⟨iF (Tt h1 h2 hlo).symm,hbw⟩
  ·go_wp2_with fail;refine(jg2 _ _ p.aP (hss _ hbw) wK).mono ?_
   rintro e w' ⟨rfl,rfl⟩;by_cases hgr:9<yx p.aP
   ·go_wp2_with fail;go_ret
    exact⟨iF (QT h1 h2 hgr).symm,hbw⟩
   ·go_wp2_with fail;go_ret
    exact⟨iF (Xi h1 h2 hbad (by omega) (by omega)).symm,hbw⟩
 ·go_wp2_with fail;go_ret
  exact⟨iF (Yf h1 h2 hbad).symm,hbw⟩
end Wh
namespace Wh
open Go Go.RowKit Go.Shelf Go.Proofs Tryz
attribute [local go_sem] aT
theorem Ey(w:World)(v:Value)(p:dA)(b:Int)(hp:mW w w.heap.size v p)(hn:p.bQ.length<=1000):
  Calls prog 68 #[v,.int .i64 b] w λe w'=>e=.returned (.bool (lV p b))/\Below w.heap.size w w':=by
 obtain⟨_,_,rfl,⟨Ab,cb,rfl,hlb,hb⟩,⟨As,cs,rfl,hls,hs⟩⟩:=hp;go_enter func68,ntmps68
 go_wp2_with (go_at_call 38;refine(oH _ _ _ _).mono ?_;rintro e w' ⟨rfl,rfl⟩)
 go_ret
 exact⟨rfl,(aj _ _).alloc (au _) _⟩
theorem Ej(w:World)(v:Value)(p:dA)(g:Int)(hp:mW w w.heap.size v p)(hn:p.aP.length<=1000):
  Calls prog 69 #[v,.int .i64 g] w λe w'=>e=.returned (.bool (iK p g))/\Below w.heap.size w w':=by
 obtain⟨_,_,rfl,⟨Ab,cb,rfl,hlb,hb⟩,⟨As,cs,rfl,hls,hs⟩⟩:=hp;go_enter func69,ntmps69
 go_wp2_with (go_at_call 38;refine(oH _ _ _ _).mono ?_;rintro e w' ⟨rfl,rfl⟩)
 go_ret
 exact⟨rfl,(aj _ _).alloc (au _) _⟩
theorem jaW(p:dA)(b g:Int):(b<0/\(lV p b&&iK p g)=false)\/(0<=b/\(p.bQ.length:Int)<=b/\(lV p b&&iK p g)=false)\/
  (0<=b/\b<p.bQ.length/\g<0/\(lV p b&&iK p g)=false)\/(0<=b/\b<p.bQ.length/\0<=g/\(p.aP.length:Int)<=g/\(lV p b&&iK p g)=false)\/
  (0<=b/\b<p.bQ.length/\0<=g/\g<p.aP.length/\(lV p b&&iK p g)=true):=by
 have h1:=@yT p b;have h2:=@vN p g;cases hb:lV p b<;>cases hg:iK p g<;>simp[hb,hg]at h1 h2 ⊢<;>omega
theorem JI(w:World)(v:Value)(p:dA)(b g:Int)(hp:mW w w.heap.size v p):
  Calls prog 60 #[v,.int .i64 b,.int .i64 g] w λe w'=>e=.returned (.bool (lV p b&&iK p g))/\Below w.heap.size w w':=by
 obtain⟨_,_,rfl,⟨Ab,cb,rfl,hlb,hb⟩,⟨As,cs,rfl,hls,hs⟩⟩:=hp;go_enter func60,ntmps60
 rcases jaW p b g with⟨h1,h⟩|⟨h1,h2,h⟩|⟨h1,h2,h3,h⟩|⟨h1,h2,h3,h4,h⟩|⟨h1,h2,h3,h4,h⟩
 all_goals
  go_wp2
  go_ret
  exact⟨fK (by first|rfl|(simp<;>omega)|(rw[h]<;>first|rfl|(simp<;>omega))),(aj _ _).alloc (au _) _⟩
theorem jg7(p:dA)(row:List Int)(W:World)(B:Nat)(u:Value)(hn:0<p.aP.length)(As:Option Addr)(cs:Nat)(hc:W.cell? ⟨B,1,none⟩=some (.slice As p.aP.length cs))(hu:Sl jJ W W.heap.size u row):
  Calls prog 127 #[u,.pointer (some ⟨B,0,none⟩)] W λe W'=>e=.returned (.bool (!BA p row))/\Below W.heap.size W W':=by
 have hu':=hu;obtain⟨A,c,rfl,hl,hA⟩:=hu;go_enter func127,ntmps127
 rcases jfL row hn with⟨h1,h⟩|⟨h1,h2,h⟩|⟨h1,h2,h3,h⟩|⟨h1,h2,h3,h⟩
 ·go_wp2_with fail;go_ret
  exact⟨fK (by rw[h];rfl),aj _ _⟩
 all_goals
  have wK:0<row.length:=by omega
  have hle1:=jy h1;have hle2:=jy h1.symm;clear h1;go_wp2_with (first|(go_at_call 128;refine(jg1 _ _ row hu' wK).mono ?_;rintro e w' ⟨rfl,rfl⟩)|(go_at_call 129;refine(jg2 _ _ row hu' wK).mono ?_;rintro e w' ⟨rfl,rfl⟩))
  go_ret
  exact⟨fK (by first|rfl|(simp<;>omega)|(rw[h]<;>first|rfl|(simp<;>omega))),aj _ _⟩
theorem WY:Enters prog 127:=enters_of func127 (by kernel_rfl) rfl
end Wh
namespace Wh
open Go Go.RowKit Go.Shelf Go.Proofs Tryz
attribute [local go_sem] aT
theorem Vk(w:World)(v vo:Value)(p:dA)(on:List (List Int))(hp:mW w w.heap.size v p)(ho:FW jJ w w.heap.size vo on):
  Calls prog 75 #[v,vo] w λe w'=>e=.returned (.int .i64 (iO p on))/\Below w.heap.size w w':=by
 have hP:=hp;have hO:=ho;obtain⟨_,_,rfl,⟨Ab,cb,rfl,hlb,hb⟩,⟨As,cs,rfl,hls,hs⟩⟩:=hp;obtain⟨A,c,vs,rfl,hl,hvl,hA,G9⟩:=ho;have hb0:Below w.heap.size w (w.alloc (.cells #[.slice Ab p.bQ.length cb,.slice As p.aP.length cs] 25)):=(aj _ _).alloc (au _) _;go_enter func75,ntmps75
 go_wp2_with fail;refine(OZ _ _ p (hP.up hb0 hb0.size)).mono ?_
 rintro e W1 ⟨rfl,hb1⟩;have hbw:=hb0.trans (hb1.mono (by simp))
 have hsz:=hb1.size;obtain⟨hc1,hf1⟩:=xH hb1;by_cases hz:gQ p=0
 ·have hz':=zX.1 hz;have wK:0<p.aP.length:=hz'.2.1.1;have yu:W1.cell? ⟨w.heap.size,1,none⟩=some (.slice As p.aP.length cs):=by rw[hc1 _ _ (by simp)];simp
  by_cases kD:on.length=p.bQ.length
  ·have hle1:=jy kD;have hle2:=jy kD.symm;have hlen':=ah kD;clear kD;go_wp2_with fail;refine(UE _ _ on 127 #[.pointer (some ⟨w.heap.size,0,none⟩)] (λr=>!BA p r) WY (hO.up hbw hbw.size) (λk _ W hW u hu=>
    jg7 p (fO on k) W w.heap.size u wK As cs ((hW.cell (p:=⟨w.heap.size,1,none⟩) (by simp at hsz ⊢;omega)).trans yu) hu)).mono ?_
   rintro e W2 ⟨rfl,hb2⟩;have hbw2:=hbw.trans (hb2.mono hbw.size);cases hbad:(on.any λr=>!BA p r)
   ·go_wp2_with fail;go_ret
    exact⟨iF (Nj hz hlen'.O hbad).symm,hbw2⟩
   ·go_wp2_with fail;go_ret
    exact⟨iF (OG hz hbad).symm,hbw2⟩
  ·have hno:=OE hz kD;go_wp2_with fail;go_ret
   exact⟨iF hno.symm,hbw⟩
 ·have hno:=Nh (on:=on) hz;go_wp2_with fail;go_ret
  exact⟨iF hno.symm,hbw⟩
theorem jbc(w:World)(v vo:Value)(p:dA)(on:List (List Int))(hp:mW w w.heap.size v p)(ho:FW jJ w w.heap.size vo on):
  Calls prog 37 #[v,vo] w λe w'=>e=.returned (.int .i64 (iO p on))/\Below w.heap.size w w':=by
 have hP:=hp;have hO:=ho;obtain⟨_,_,rfl,⟨Ab,cb,rfl,hlb,hb⟩,⟨As,cs,rfl,hls,hs⟩⟩:=hp;obtain⟨A,c,vs,rfl,hl,hvl,hA,G9⟩:=ho;have hb0:Below w.heap.size w (w.alloc (.cells #[.slice Ab p.bQ.length cb,.slice As p.aP.length cs] 25)):=(aj _ _).alloc (au _) _;go_enter func37,ntmps37
 go_wp2_with fail;refine(Vy _ _ p (hP.up hb0 hb0.size)).mono ?_
 rintro e W1 ⟨rfl,hb1⟩;have hbw:=hb0.trans (hb1.mono (by simp))
 have hsz:=hb1.size;obtain⟨hc1,hf1⟩:=xH hb1;by_cases hz:gQ p=0
 ·have hz':=zX.1 hz;have wK:0<p.aP.length:=hz'.2.1.1;by_cases kD:on.length=p.bQ.length
  ·have hle1:=jy kD;have hle2:=jy kD.symm;have hlen':=ah kD;have hnb:((on.length:Int)!=(p.bQ.length:Int))=false:=by rw[kD];simp
   have hcell0:W1.cell? ⟨w.heap.size,0,none⟩=some (.slice Ab p.bQ.length cb):=by rw[hc1 _ _ (by simp)];simp
   have hcell1:W1.cell? ⟨w.heap.size,1,none⟩=some (.slice As p.aP.length cs):=by rw[hc1 _ _ (by simp)];simp
   have uZ:w.heap.size<W1.heap.size:=by simp at hsz;omega
   clear kD hc1 hf1 hsz hb1 hz';have hzz:=ah hz;go_wp2_with fail;clear hz;go_loopw[6] (λi wr=>∃k:Nat,k<=on.length/\i=.int .i64 k/\(∀j,j<k->BA p (fO on j)=true)/\Below w.heap.size w wr/\w.heap.size<wr.heap.size/\wr.cell? ⟨w.heap.size,1,none⟩=some (.slice As p.aP.length cs)) (λi _=>on.length - (RowKit.intOf i).toNat)
   case atStart=>exact⟨0,aK _,rfl,λj hj=>by omega,hbw,uZ,hcell1⟩
   case round=>
    obtain⟨k,hk,rfl,kE,hbr,jqL,hcr⟩:=hrel;by_cases hlt:k<on.length
    ·obtain⟨A',c',hok,LG,hcu,hsu⟩:=(hO.up hbr hbr.size).row hlt;have hA2:=hsu.at_;by_cases hrl:(fO on k).length=p.aP.length
     ·have hr1:=jy hrl;have hr2:=jy hrl.symm;have jif:=ah hrl;have hnr:(((fO on k).length:Int)!=(p.aP.length:Int))=false:=by rw[hrl];simp
      clear hrl;go_wp2_with fail;go_quiet (fail)
      go_wp2_with fail;have hA3:=hA2.up (below_drewN (aj _ _) nq) (au _);go_loop[7] (λi=>∃j:Nat,j<=(fO on k).length/\i=.int .i64 j/\(∀m,m<j->cZ (bI (fO on k) m) 0 200=true)) (λi=>(fO on k).length - (RowKit.intOf i).toNat)
      case atStart=>exact⟨0,aK _,rfl,λj hj=>by omega⟩
      case round=>
       obtain⟨j,hj,rfl,jb9⟩:=hrel;by_cases hjt:j<(fO on k).length
       ·obtain⟨hok2,PD,b2⟩:=hA3.int hjt;cases g1:cZ (bI (fO on k) j) 0 200
        ·have bK:=ah (OD hzz.O hlt (jdi hjt g1));go_wp2_with (go_at_call 38;refine(oH _ _ _ _).mono ?_;rintro e w' ⟨rfl,rfl⟩)
         go_ret
         exact⟨iF bK.O.symm,below_drewN hbr _⟩
        ·go_wp2_with (go_at_call 38;refine(oH _ _ _ _).mono ?_;rintro e w' ⟨rfl,rfl⟩)
         go_round
         case rel=>
          refine⟨j+1,by omega,by go_num,λm hm=>?_⟩
          rcases aS.1 hm with h|rfl
          ·exact jb9 m h
          ·exact g1
         case measure=>simp[RowKit.intOf];omega
       ·obtain rfl:j=(fO on k).length:=by omega
        have vS:=Yy jif.O jb9;go_wp2_with fail;go_roundw
        case rel=>
         refine⟨k+1,by omega,by go_num,λm hm=>?_,below_drewN hbr _,jqL,hcr⟩
         rcases aS.1 hm with h|rfl
         ·exact kE m h
         ·exact vS
        case measure=>simp[RowKit.intOf];omega
     ·have hno:BA p (fO on k)=false:=by unfold BA;simp[hrl]
      have bK:=ah (OD hzz.O hlt hno);go_wp2_with fail;go_quiet (fail)
      go_wp2_with fail;go_ret
      exact⟨iF bK.O.symm,below_drewN hbr _⟩
    ·obtain rfl:k=on.length:=by omega
     have bK:=ah (OH hzz.O hlen'.O kE);go_wp2_with fail;go_ret
     exact⟨iF bK.O.symm,hbr⟩
  ·have hno:=OE hz kD;go_wp2_with fail;go_ret
   exact⟨iF hno.symm,hbw⟩
 ·have hno:=Nh (on:=on) hz;go_wp2_with fail;go_ret
  exact⟨iF hno.symm,hbw⟩
end Wh
namespace Wh
open Go Go.RowKit Go.Shelf Go.Proofs Tryz
attribute [local go_sem] aT
theorem SA{p:dA}{on:List (List Int)}{b g:Int}(h:iO p on≠0):qW p on b g=iO p on:=by
 unfold qW;rw[aB h]
theorem Sz{p:dA}{on:List (List Int)}{b g:Int}(h:iO p on=0)(h2:(lV p b&&iK p g)=false):qW p on b g=3:=by
 unfold qW;simp[h,h2]
theorem XI{p:dA}{on:List (List Int)}{b g:Int}(h:iO p on=0)(h2:(lV p b&&iK p g)=true):qW p on b g=0:=by
 unfold qW;simp[h,h2]
theorem jdf(w:World)(v vo:Value)(p:dA)(on:List (List Int))(b g:Int)(hp:mW w w.heap.size v p)(ho:FW jJ w w.heap.size vo on):
  Calls prog 143 #[v,vo,.int .i64 b,.int .i64 g] w λe w'=>e=.returned (.int .i64 (qW p on b g))/\Below w.heap.size w w':=by
 have hP:=hp;have hO:=ho;obtain⟨_,_,rfl,⟨Ab,cb,rfl,hlb,hb⟩,⟨As,cs,rfl,hls,hs⟩⟩:=hp;have hb0:Below w.heap.size w (w.alloc (.cells #[.slice Ab p.bQ.length cb,.slice As p.aP.length cs] 25)):=(aj _ _).alloc (au _) _;go_enter func143,ntmps143
 go_wp2_with fail;refine(Vk _ _ vo p on (hP.up hb0 hb0.size) (hO.up hb0 hb0.size)).mono ?_
 rintro e W1 ⟨rfl,hb1⟩;have hbw:=hb0.trans (hb1.mono (by simp))
 have hsz:=hb1.size;obtain⟨hc1,hf1⟩:=xH hb1;by_cases hz:iO p on=0
 ·go_wp2_with fail;refine(JI _ _ p b g (hP.up hbw hbw.size)).mono ?_
  rintro e W2 ⟨rfl,hb2⟩;have hbw2:=hbw.trans (hb2.mono hbw.size);cases ht:(lV p b&&iK p g)
  ·have bK:=ah (Sz hz ht);go_wp2_with fail;go_ret
   exact⟨iF bK.O.symm,hbw2⟩
  ·have bK:=ah (XI hz ht);go_wp2_with fail;go_ret
   exact⟨iF bK.O.symm,hbw2⟩
 ·have bK:=ah (SA (b:=b) (g:=g) hz);go_wp2_with fail;go_ret
  exact⟨iF bK.O.symm,hbw⟩
end Wh
namespace Wh
open Go Go.RowKit Go.Shelf Go.Proofs Tryz
attribute [local go_sem] aT
theorem jkj(w:World)(v vo:Value)(p:dA)(on:List (List Int))(b:Nat)(hp:mW w w.heap.size v p)(ho:FW jJ w w.heap.size vo on)(hz:iO p on=0)(hbn:b<p.bQ.length):
  Calls prog 157 #[v,vo,.int .i64 b] w λe w'=>e=.returned (.int .i64 (LJ p on b))/\Below w.heap.size w w':=by
 have hP:=hp;have hO:=ho;obtain⟨_,_,rfl,⟨Ab,cb,rfl,hlb,hb⟩,⟨As,cs,rfl,hls,hs⟩⟩:=hp;obtain⟨A,c,vs,rfl,hl,hvl,hA,G9⟩:=ho;have hb0:Below w.heap.size w (w.alloc (.cells #[.slice Ab p.bQ.length cb,.slice As p.aP.length cs] 25)):=(aj _ _).alloc (au _) _;have hbl:b<on.length:=by rw[OW hz];exact hbn
 have hcnt:=pJ (jZ.1 hz).1;have vS:=OV hz hbl;have hle:=jy vS.symm;have hR:=ah vS;clear vS;go_enter func157,ntmps157
 go_wp2_with fail;go_loopw[7,8] (λn i wr=>∃k:Nat,k<=p.aP.length/\i=.int .i64 k/\n=.int .i64 (nH (λg=>cell on b g*bI p.aP g) k)/\Below w.heap.size w wr/\w.heap.size<wr.heap.size/\wr.cell? ⟨w.heap.size,1,none⟩=some (.slice As p.aP.length cs)) (λ_ i _=>p.aP.length - (RowKit.intOf i).toNat)
 case atStart=>exact⟨0,aK _,rfl,rfl,hb0,by simp,by simp⟩
 case round=>
  obtain⟨k,hk,rfl,rfl,hbw,hsz,hc1⟩:=hrel;by_cases hlt:k<p.aP.length
  ·obtain⟨A',c',hok,LG,hcu,hsu⟩:=(hO.up hbw hbw.size).row hbl;obtain⟨hok2,PD,b2⟩:=hsu.at_.int (i:=k) (by rw[hR.O];exact hlt)
   obtain⟨hok3,hAb3,b3⟩:=(hs.up hbw hbw.size).int hlt;obtain⟨u1,u2⟩:=U9 hz hbl hk;have hu2:nH (λg=>cell on b g*bI p.aP g) k<=9000:=by omega
   obtain⟨q1,q2⟩:=Vz (Gf hz hbl hlt) (zH (jZ.1 hz).1 hlt);unfold cell at q1 q2
   clear u2;have hlr:k<(fO on b).length:=by omega
   go_wp2_with fail;go_quiet (fail)
   go_wp2_with fail;go_roundw
   case rel=>exact⟨k+1,by omega,by go_num,rfl,below_drewN hbw _,hsz,hc1⟩
   case measure=>simp[RowKit.intOf];omega
  ·obtain rfl:k=p.aP.length:=by omega
   go_wp2_with fail;go_ret
   exact⟨rfl,hbw⟩
theorem jhm(w:World)(vo:Value)(p:dA)(on:List (List Int))(g:Nat)(ho:FW jJ w w.heap.size vo on)(hz:iO p on=0)(hgn:g<p.aP.length):
  Calls prog 91 #[vo,.int .i64 g] w λe w'=>e=.returned (.int .i64 (BU on g))/\w=w':=by
 have hO:=ho;obtain⟨A,c,vs,rfl,hl,hvl,hA,G9⟩:=ho;have hcnt:=pJ (jZ.1 hz).1;have kD:=OW hz;have hle:=jy kD;clear kD;go_enter func91,ntmps91
 go_wp2_with fail;go_loop[5,6] (λn i=>∃k:Nat,k<=on.length/\i=.int .i64 k/\n=.int .i64 (nH (λb=>cell on b g) k)) (λ_ i=>on.length - (RowKit.intOf i).toNat)
 case atStart=>exact⟨0,aK _,rfl,rfl⟩
 case round=>
  obtain⟨k,hk,rfl,rfl⟩:=hrel;by_cases hlt:k<on.length
  ·obtain⟨A',c',hok,LG,hcu,hsu⟩:=hO.row hlt;have hgr:g<(fO on k).length:=by rw[OV hz hlt];exact hgn
   obtain⟨hok2,PD,b2⟩:=hsu.at_.int hgr;obtain⟨u1,u2⟩:=Yn hz hgn hk;have hu2:nH (λb=>cell on b g) k<=9000:=by omega
   obtain⟨q1,q2⟩:=Gf hz hlt hgn;unfold cell at q1 q2
   clear u2;go_wp2_with fail;go_round
   case rel=>exact⟨k+1,by omega,by go_num,rfl⟩
   case measure=>simp[RowKit.intOf];omega
  ·obtain rfl:k=on.length:=by omega
   go_wp2_with fail;go_ret
   exact⟨rfl,rfl⟩
end Wh
namespace Wh
open Go Go.RowKit Go.Shelf Go.Proofs Tryz
attribute [local go_sem] aT
theorem jeM{p:dA}{on:List (List Int)}{g:Nat}(h:qW p on 0 g=0):jgV p on g=BU on g:=by
 unfold jgV;rw[aB h,bZ]
theorem jkb{p:dA}{on:List (List Int)}{g:Int}(h:qW p on 0 g≠0):jgV p on g=0:=by
 unfold jgV;rw[ay h]
theorem jg5(w:World)(v vo:Value)(p:dA)(on:List (List Int))(g:Int)(hp:mW w w.heap.size v p)(ho:FW jJ w w.heap.size vo on):
  Calls prog 82 #[v,vo,.int .i64 g] w λe w'=>e=.returned (.tuple #[.int .i64 (jgV p on g),.int .i64 (qW p on 0 g)])/\Below w.heap.size w w':=by
 have hP:=hp;have hO:=ho;obtain⟨_,_,rfl,⟨Ab,cb,rfl,hlb,hb⟩,⟨As,cs,rfl,hls,hs⟩⟩:=hp;obtain⟨A,c,vs,rfl,hl,hvl,hA,G9⟩:=ho;have hb0:Below w.heap.size w (w.alloc (.cells #[.slice Ab p.bQ.length cb,.slice As p.aP.length cs] 25)):=(aj _ _).alloc (au _) _;go_enter func82,ntmps82
 go_wp2_with fail;refine(jdf _ _ _ p on 0 g (hP.up hb0 hb0.size) (hO.up hb0 hb0.size)).mono ?_
 rintro e W1 ⟨rfl,hb1⟩;have hbw:=hb0.trans (hb1.mono (by simp))
 have hsz:=hb1.size;obtain⟨hc1,hf1⟩:=xH hb1;by_cases hz:qW p on 0 g=0
 ·obtain⟨hz1,hz2,hz3⟩:=MW.1 hz;have hbb:=vN.1 hz3;obtain⟨g',rfl⟩:∃n:Nat,g=n:=⟨g.toNat,by omega⟩
  have hgn:g'<p.aP.length:=by omega
  have hcnt:=pJ (jZ.1 hz1).1;have kD:=OW hz1;have hle:=jy kD;clear kD hbb hz2 hz3;have bK:=ah (jeM hz);have hz':=ah hz;go_wp2_with fail;clear hz;go_loop[9,21,11] (λn i _=>∃k:Nat,k<=on.length/\i=.int .i64 k/\n=.int .i64 (nH (λb=>cell on b g') k)) (λ_ i _=>on.length - (RowKit.intOf i).toNat)
  case atStart=>exact⟨0,aK _,rfl,rfl⟩
  case round=>
   obtain⟨k,hk,rfl,rfl⟩:=hrel;by_cases hlt:k<on.length
   ·obtain⟨A',c',hok,LG,hcu,hsu⟩:=(hO.up hbw hbw.size).row hlt;have hgr:g'<(fO on k).length:=by rw[OV hz1 hlt];exact hgn
    obtain⟨hok2,PD,b2⟩:=hsu.at_.int hgr;obtain⟨u1,u2⟩:=Yn hz1 hgn hk;have hu2:nH (λb=>cell on b g') k<=9000:=by omega
    obtain⟨q1,q2⟩:=Gf hz1 hlt hgn;unfold cell at q1 q2
    clear u2;go_wp2_with fail;go_round
    case rel=>exact⟨k+1,by omega,by go_num,rfl⟩
    case measure=>simp[RowKit.intOf];omega
   ·obtain rfl:k=on.length:=by omega
    go_wp2_with fail;go_ret2
    exact⟨jdj (by rw[bK.O];rfl) (by rw[hz'.O];rfl),hbw⟩
 ·have bK:=ah (jkb hz);have hz':=ah hz;go_wp2_with fail;go_ret2
  exact⟨jdj (by rw[bK.O];rfl) rfl,hbw⟩
end Wh
namespace Wh
open Go Go.RowKit Go.Shelf Go.Proofs Tryz
attribute [local go_sem] aT
theorem Rw:Elem prog 23 (.slice none 0 0) 1 24:=Iu (by kernel_rfl)
theorem RS(w:World)(v:Value)(l:List Int)(hv:Sl jJ w w.heap.size v l)(hn:l.length<=1000000):
  Calls prog 113 #[v] w (Gives (λu w'=>Own jJ 1 3 w' w.heap.size u l) w):=by
 obtain⟨A,c,rfl,hl,hA⟩:=hv;have qT:∀(w:World) (a:Option Addr) (n c n' c':Nat),(binOp .eql 23 (.slice a n c) (.slice none n' c')).run prog w=.ok (.bool a.isNone) w:=λw a n c n' c'=>Lib.run_eql_slice_nil w _ _ a n c n' c' underlying23
 cases A with
 |none=>
  have h0:l=[]:=by
   cases l with
   |nil=>rfl
   |cons x r=>exact absurd (hA.ok (by simp[jJ])) (by rintro⟨b,off,h⟩;cases h)
  subst h0;go_enter func113,ntmps113
  go_wp2_with (at_builtin;refine aW ?_)
  go_ret
  exact⟨_,rfl,Own.nil,aj _ _⟩
 |some ad=>
  go_enter func113,ntmps113
  go_wp2_with (at_builtin;refine aW ?_)
  unfold Hid;refine IV _ rfl (.tmp 5) (.tmp 6) 23 3 rfl w.heap.size _ 1 8 underlying23 L9 rfl (by decide) (by decide) (.slice (some ⟨w.heap.size,0,none⟩) 0 0) ([]:List Int) l rfl (Own.VQ w _ (au _)) (some ad) c w.heap.size rfl (λ_=>rfl)
   (hA.up ((aj _ _).alloc (au _) _) (au _)) (λy=>UU y) (by simpa using hn) (by simp) ?_
  intro v1 w1 yj hg1 jb7 FC;go_wp2_with fail;go_ret
  exact⟨_,rfl,by simpa using yj,((aj _ _).alloc (au _) _).trans FC⟩
theorem Dq{α:Type}{l:List α}{k:Nat}(h:k<l.length):l.take (k+1)=l.take k++[l[k]]:=by
 rw[dO h]
theorem UR(v:Value)(h:v.oneCell'=true):∀u∈(λx:Value=>[x]) v,u.oneCell'=true:=by simpa using h
theorem jg6(w:World)(v:Value)(on:List (List Int))(hv:FW jJ w w.heap.size v on)(hn:on.length<=1000)(hr:∀k,k<on.length->0<(fO on k).length/\(fO on k).length<=1000):
  Calls prog 110 #[v] w (Gives (λu w'=>∃gs,qM 23 3 w' w.heap.size u on gs) w):=by
 have hO:=hv;obtain⟨A,c,vs,rfl,hl,hvl,hA,G9⟩:=hv;go_enter func110,ntmps110
 go_wp2_with fail;go_loopw[3,5,8] (λu _ i wr=>∃(k:Nat) (gs:List Nat),k<=on.length/\i=.int .i64 k/\qM 23 3 wr w.heap.size u (on.take k) gs/\Below w.heap.size w wr) (λ_ _ i _=>on.length - (RowKit.intOf i).toNat)
 case atStart=>exact⟨0,[],aK _,rfl,qM.nil,aj _ _⟩
 case round=>
  obtain⟨k,gs,hk,rfl,lC,hbw⟩:=hrel;by_cases hlt:k<on.length
  ·obtain⟨A',c',hok,LG,hcu,hsu⟩:=(hO.up hbw hbw.size).row hlt;have hrk:=hr k hlt;go_wp2_with (first|(at_builtin;refine aW ?_)|fail)
   refine(RS _ _ _ hsu (by omega)).mono ?_
   rintro e W1 ⟨u,rfl,hu,hb1⟩;obtain⟨g,cu,rfl,hgb,hgl⟩:=hu.some_ hrk.1;obtain⟨vs',hV⟩:=lC;have h1:=hV.1;have h2:=hV.2.1;have kD:(on.take k).length<=1000:=aY (xU _ _) (by omega)
   have sF:=hbw.trans (hb1.mono hbw.size);go_wp2_with (first|(at_builtin;refine aW ?_)|fail)
   unfold Hid;refine lS _ rfl (.tmp 12) (.tmp 15) 26 23 rfl w.heap.size _ 1 24 underlying26 Rw rfl (by decide) (by decide) u3 vs' (.slice (some ⟨g,0,none⟩) (fO on k).length cu) rfl ((h1.below hb1).alloc _) ⟨W1.heap.size,0,none⟩ 1 rfl rfl (cell_one_new _ _ _) (UR _ rfl) (by omega) (by have:=sF.size;simp;omega) ?_
   intro v2 w2 yh hg2 jt2 ji3;have hpush:=Xt.push (by decide) hV (hb1.alloc hb1.size _) hgb ((hu.from_ hbw.size).alloc _) hg2 yh
   rw[xZ hlt,<- Dq hlt]at hpush
   have hbw2:=(sF.alloc sF.size (.cells #[.slice (some ⟨g,0,none⟩) (fO on k).length cu] 23)).trans ji3;go_wp2_with fail;go_roundw
   case rel=>exact⟨k+1,_,by omega,by go_num,hpush,hbw2⟩
   case measure=>simp[RowKit.intOf];omega
  ·obtain rfl:k=on.length:=by omega
   rw[fG]at lC
   go_wp2_with fail;go_ret
   exact⟨_,rfl,⟨gs,lC⟩,hbw⟩
end Wh
