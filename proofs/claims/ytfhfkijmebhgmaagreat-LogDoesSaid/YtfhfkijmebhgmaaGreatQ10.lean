/- Texts of the claim, joined. -/
import Derived.Test.YtfhfkijmebhgmaaGreatQ09
set_option maxHeartbeats 20000000
set_option maxRecDepth 100000
namespace Wh
open Go Go.RowKit Go.Proofs Tryz
theorem iG {w:World} {vs:Value} {s:State} (hv:fE w w.heap.size vs s):∃ A0 c0 A1 c1 A2 c2 A3 c3 A4 c4 A5 c5 A6 c6,vs=.agg #[.slice A0 s.on.length c0,.slice A1 s.orders.length c1,.slice A2 s.holds.length c2,.slice A3 s.moves.length c3,.slice A4 s.inn.length c4,.slice A5 s.out.length c5,.slice A6 s.fixed.length c6]∧Hid (∀ W,Below w.heap.size w W→fE W W.heap.size (.agg #[.slice A0 s.on.length c0,.slice A1 s.orders.length c1,.slice A2 s.holds.length c2,.slice A3 s.moves.length c3,.slice A4 s.inn.length c4,.slice A5 s.out.length c5,.slice A6 s.fixed.length c6]) s)∧Hid (∀ W,Below w.heap.size w W→xK dY W W.heap.size (.slice A0 s.on.length c0) s.on)∧Hid (∀ W,Below w.heap.size w W→gI W W.heap.size (.slice A1 s.orders.length c1) s.orders)∧Hid (∀ W,Below w.heap.size w W→Sl bM W W.heap.size (.slice A2 s.holds.length c2) s.holds)∧Hid (∀ W,Below w.heap.size w W→Sl gV W W.heap.size (.slice A3 s.moves.length c3) s.moves)∧Hid (∀ W,Below w.heap.size w W→Sl dY W W.heap.size (.slice A4 s.inn.length c4) s.inn)∧Hid (∀ W,Below w.heap.size w W→Sl dY W W.heap.size (.slice A5 s.out.length c5) s.out)∧Hid (∀ W,Below w.heap.size w W→Sl dY W W.heap.size (.slice A6 s.fixed.length c6) s.fixed)∧s.on.length≤140737488355232∧s.orders.length≤140737488355232∧s.holds.length≤140737488355232∧s.moves.length≤140737488355232∧s.inn.length≤140737488355232∧s.out.length≤140737488355232∧s.fixed.length≤140737488355232:=by
 have hS:=hv;obtain ⟨_,_,_,_,_,_,_,rfl,⟨A0,c0,vs0,rfl,hl0,hm0,ha0,hr0⟩,⟨A1,c1,vs1,rfl,hl1,hm1,ha1,hr1⟩,⟨A2,c2,rfl,hl2,ha2⟩,⟨A3,c3,rfl,hl3,ha3⟩,⟨A4,c4,rfl,hl4,ha4⟩,⟨A5,c5,rfl,hl5,ha5⟩,⟨A6,c6,rfl,CW,ha6⟩⟩:=hv;exact ⟨A0,c0,A1,c1,A2,c2,A3,c3,A4,c4,A5,c5,A6,c6,rfl,Lib.hid (fun W hW=>hS.up hW hW.size),Lib.hid (fun W hW=>xK.up ⟨A0,c0,vs0,rfl,hl0,hm0,ha0,hr0⟩ hW hW.size),Lib.hid (fun W hW=>gI.up ⟨A1,c1,vs1,rfl,hl1,hm1,ha1,hr1⟩ hW hW.size),Lib.hid (fun W hW=>Sl.up ⟨A2,c2,rfl,hl2,ha2⟩ hW hW.size),Lib.hid (fun W hW=>Sl.up ⟨A3,c3,rfl,hl3,ha3⟩ hW hW.size),Lib.hid (fun W hW=>Sl.up ⟨A4,c4,rfl,hl4,ha4⟩ hW hW.size),Lib.hid (fun W hW=>Sl.up ⟨A5,c5,rfl,hl5,ha5⟩ hW hW.size),Lib.hid (fun W hW=>Sl.up ⟨A6,c6,rfl,CW,ha6⟩ hW hW.size),hl0,hl1,hl2,hl3,hl4,hl5,CW⟩
theorem kN {w:World} {v:Value} {p:Plan} (hp:fZ w w.heap.size v p):∃ Ab cb As cs,v=.agg #[.slice Ab p.aH.length cb,.slice As p.sizes.length cs]∧Hid (∀ W,Below w.heap.size w W→fZ W W.heap.size (.agg #[.slice Ab p.aH.length cb,.slice As p.sizes.length cs]) p)∧Hid (∀ W,Below w.heap.size w W→Sl Jv W W.heap.size (.slice Ab p.aH.length cb) p.aH)∧Hid (∀ W,Below w.heap.size w W→Sl dY W W.heap.size (.slice As p.sizes.length cs) p.sizes)∧p.aH.length≤140737488355232∧p.sizes.length≤140737488355232:=by
 have hP:=hp;obtain ⟨_,_,rfl,⟨Ab,cb,rfl,hlb,hb⟩,⟨As,cs,rfl,hls,hs⟩⟩:=hp;exact ⟨Ab,cb,As,cs,rfl,Lib.hid (fun W hW=>hP.up hW hW.size),Lib.hid (fun W hW=>Sl.up ⟨Ab,cb,rfl,hlb,hb⟩ hW hW.size),Lib.hid (fun W hW=>Sl.up ⟨As,cs,rfl,hls,hs⟩ hW hW.size),hlb,hls⟩
theorem uS (w:World) (p:Plan) (s:State) (Ab:Option Addr) (cb:Nat) (As:Option Addr) (cs:Nat) (A0:Option Addr) (c0:Nat) (A1:Option Addr) (c1:Nat) (A2:Option Addr) (c2:Nat) (A3:Option Addr) (c3:Nat) (A4:Option Addr) (c4:Nat) (A5:Option Addr) (c5:Nat) (A6:Option Addr) (c6:Nat):
  ∃ W0:World,(w.alloc (.cells #[.slice Ab p.aH.length cb,.slice As p.sizes.length cs] 25)).alloc (.cells #[.slice A0 s.on.length c0,.slice A1 s.orders.length c1,.slice A2 s.holds.length c2,.slice A3 s.moves.length c3,.slice A4 s.inn.length c4,.slice A5 s.out.length c5,.slice A6 s.fixed.length c6] 31)=W0∧Below w.heap.size w W0∧w.heap.size+1<W0.heap.size∧w.heap.size<W0.heap.size∧Hid (W0.heap.size=w.heap.size+1+1)∧
   Hid (∀ W,Below W0.heap.size W0 W→(W.cell? ⟨w.heap.size,0,none⟩=some (.slice Ab p.aH.length cb)∧W.cell? ⟨w.heap.size,1,none⟩=some (.slice As p.sizes.length cs))∧W.cell? ⟨w.heap.size+1,0,none⟩=some (.slice A0 s.on.length c0)∧W.cell? ⟨w.heap.size+1,1,none⟩=some (.slice A1 s.orders.length c1)∧W.cell? ⟨w.heap.size+1,2,none⟩=some (.slice A2 s.holds.length c2)∧W.cell? ⟨w.heap.size+1,3,none⟩=some (.slice A3 s.moves.length c3)∧W.cell? ⟨w.heap.size+1,4,none⟩=some (.slice A4 s.inn.length c4)∧W.cell? ⟨w.heap.size+1,5,none⟩=some (.slice A5 s.out.length c5)∧W.cell? ⟨w.heap.size+1,6,none⟩=some (.slice A6 s.fixed.length c6)∧w.heap.size+1<W.heap.size∧w.heap.size<W.heap.size):=by
 refine ⟨_,rfl,((aj _ _).alloc (aA _) _).alloc (by simp) _,by simp,by simp;omega,Lib.hid (by simp),Lib.hid fun W hW=>?_⟩
 have h1:dw ((w.alloc (.cells #[.slice Ab p.aH.length cb,.slice As p.sizes.length cs] 25)).alloc (.cells #[.slice A0 s.on.length c0,.slice A1 s.orders.length c1,.slice A2 s.holds.length c2,.slice A3 s.moves.length c3,.slice A4 s.inn.length c4,.slice A5 s.out.length c5,.slice A6 s.fixed.length c6] 31)) w.heap.size 25 [.slice Ab p.aH.length cb,.slice As p.sizes.length cs]:=(dw.new _ _ _).alloc _;have h2:dw ((w.alloc (.cells #[.slice Ab p.aH.length cb,.slice As p.sizes.length cs] 25)).alloc (.cells #[.slice A0 s.on.length c0,.slice A1 s.orders.length c1,.slice A2 s.holds.length c2,.slice A3 s.moves.length c3,.slice A4 s.inn.length c4,.slice A5 s.out.length c5,.slice A6 s.fixed.length c6] 31)) (w.heap.size+1) 31 [.slice A0 s.on.length c0,.slice A1 s.orders.length c1,.slice A2 s.holds.length c2,.slice A3 s.moves.length c3,.slice A4 s.inn.length c4,.slice A5 s.out.length c5,.slice A6 s.fixed.length c6]:=by
  have:=dw.new (w.alloc (.cells #[.slice Ab p.aH.length cb,.slice As p.sizes.length cs] 25)) 31 #[.slice A0 s.on.length c0,.slice A1 s.orders.length c1,.slice A2 s.holds.length c2,.slice A3 s.moves.length c3,.slice A4 s.inn.length c4,.slice A5 s.out.length c5,.slice A6 s.fixed.length c6];rw [fP] at this
  exact this
 have k1:=h1.below hW (by simp;omega)
 have k2:=h2.below hW (by simp)
 exact ⟨⟨k1.cell rfl,k1.cell rfl⟩,k2.cell rfl,k2.cell rfl,k2.cell rfl,k2.cell rfl,k2.cell rfl,k2.cell rfl,k2.cell rfl,k2.lt,k1.lt⟩
theorem ES (w:World) (s:State) (A0:Option Addr) (c0:Nat) (A1:Option Addr) (c1:Nat) (A2:Option Addr) (c2:Nat) (A3:Option Addr) (c3:Nat) (A4:Option Addr) (c4:Nat) (A5:Option Addr) (c5:Nat) (A6:Option Addr) (c6:Nat):
  ∃ W0:World,w.alloc (.cells #[.slice A0 s.on.length c0,.slice A1 s.orders.length c1,.slice A2 s.holds.length c2,.slice A3 s.moves.length c3,.slice A4 s.inn.length c4,.slice A5 s.out.length c5,.slice A6 s.fixed.length c6] 31)=W0∧Below w.heap.size w W0∧w.heap.size<W0.heap.size∧w.heap.size<W0.heap.size∧Hid (W0.heap.size=w.heap.size+1)∧
   Hid (∀ W,Below W0.heap.size W0 W→(True∧True)∧W.cell? ⟨w.heap.size,0,none⟩=some (.slice A0 s.on.length c0)∧W.cell? ⟨w.heap.size,1,none⟩=some (.slice A1 s.orders.length c1)∧W.cell? ⟨w.heap.size,2,none⟩=some (.slice A2 s.holds.length c2)∧W.cell? ⟨w.heap.size,3,none⟩=some (.slice A3 s.moves.length c3)∧W.cell? ⟨w.heap.size,4,none⟩=some (.slice A4 s.inn.length c4)∧W.cell? ⟨w.heap.size,5,none⟩=some (.slice A5 s.out.length c5)∧W.cell? ⟨w.heap.size,6,none⟩=some (.slice A6 s.fixed.length c6)∧w.heap.size<W.heap.size∧w.heap.size<W.heap.size):=by
 refine ⟨_,rfl,(aj _ _).alloc (aA _) _,by simp,by simp,Lib.hid (by simp),Lib.hid fun W hW=>?_⟩
 have h2:dw (w.alloc (.cells #[.slice A0 s.on.length c0,.slice A1 s.orders.length c1,.slice A2 s.holds.length c2,.slice A3 s.moves.length c3,.slice A4 s.inn.length c4,.slice A5 s.out.length c5,.slice A6 s.fixed.length c6] 31)) w.heap.size 31 [.slice A0 s.on.length c0,.slice A1 s.orders.length c1,.slice A2 s.holds.length c2,.slice A3 s.moves.length c3,.slice A4 s.inn.length c4,.slice A5 s.out.length c5,.slice A6 s.fixed.length c6]:=dw.new _ _ _;have k2:=h2.below hW (by simp)
 exact ⟨⟨bP,bP⟩,k2.cell rfl,k2.cell rfl,k2.cell rfl,k2.cell rfl,k2.cell rfl,k2.cell rfl,k2.cell rfl,k2.lt,k2.lt⟩
theorem ji1 (w:World) (p:Plan) (Ab:Option Addr) (cb:Nat) (As:Option Addr) (cs:Nat):
  ∃ W0:World,w.alloc (.cells #[.slice Ab p.aH.length cb,.slice As p.sizes.length cs] 25)=W0∧Below w.heap.size w W0∧w.heap.size<W0.heap.size∧Hid (∀ W,Below W0.heap.size W0 W→W.cell? ⟨w.heap.size,0,none⟩=some (.slice Ab p.aH.length cb)∧W.cell? ⟨w.heap.size,1,none⟩=some (.slice As p.sizes.length cs)∧w.heap.size<W.heap.size):=by
 refine ⟨_,rfl,(aj _ _).alloc (aA _) _,by simp,Lib.hid fun W hW=>?_⟩
 have h1:dw (w.alloc (.cells #[.slice Ab p.aH.length cb,.slice As p.sizes.length cs] 25)) w.heap.size 25 [.slice Ab p.aH.length cb,.slice As p.sizes.length cs]:=dw.new _ _ _;have k1:=h1.below hW (by simp)
 exact ⟨k1.cell rfl,k1.cell rfl,k1.lt⟩
theorem oH (w:World) (p:Plan) (s:State) (Ab:Option Addr) (cb:Nat) (As:Option Addr) (cs:Nat) (A0:Option Addr) (c0:Nat) (A1:Option Addr) (c1:Nat) (A2:Option Addr) (c2:Nat) (A3:Option Addr) (c3:Nat) (A4:Option Addr) (c4:Nat) (A5:Option Addr) (c5:Nat) (A6:Option Addr) (c6:Nat):
  ∃ W0:World,((w.alloc (.cells #[.slice Ab p.aH.length cb,.slice As p.sizes.length cs] 25)).alloc (.cells #[.slice A0 s.on.length c0,.slice A1 s.orders.length c1,.slice A2 s.holds.length c2,.slice A3 s.moves.length c3,.slice A4 s.inn.length c4,.slice A5 s.out.length c5,.slice A6 s.fixed.length c6] 31)).alloc (.cells #[.slice none 0 0,.slice none 0 0,.slice none 0 0,.slice none 0 0,.slice none 0 0,.slice none 0 0,.slice none 0 0] 31)=W0∧Below w.heap.size w W0∧w.heap.size+1<W0.heap.size∧w.heap.size<W0.heap.size∧Hid (W0.heap.size=w.heap.size+1+1+1)∧
   Hid (∀ W,Below W0.heap.size W0 W→(W.cell? ⟨w.heap.size,0,none⟩=some (.slice Ab p.aH.length cb)∧W.cell? ⟨w.heap.size,1,none⟩=some (.slice As p.sizes.length cs))∧W.cell? ⟨w.heap.size+1,0,none⟩=some (.slice A0 s.on.length c0)∧W.cell? ⟨w.heap.size+1,1,none⟩=some (.slice A1 s.orders.length c1)∧W.cell? ⟨w.heap.size+1,2,none⟩=some (.slice A2 s.holds.length c2)∧W.cell? ⟨w.heap.size+1,3,none⟩=some (.slice A3 s.moves.length c3)∧W.cell? ⟨w.heap.size+1,4,none⟩=some (.slice A4 s.inn.length c4)∧W.cell? ⟨w.heap.size+1,5,none⟩=some (.slice A5 s.out.length c5)∧W.cell? ⟨w.heap.size+1,6,none⟩=some (.slice A6 s.fixed.length c6)∧w.heap.size+1<W.heap.size∧w.heap.size<W.heap.size)∧
   Hid (∀ W,Below W0.heap.size W0 W→dw W (w.heap.size+1+1) 31 [.slice none 0 0,.slice none 0 0,.slice none 0 0,.slice none 0 0,.slice none 0 0,.slice none 0 0,.slice none 0 0]):=by
 obtain ⟨W1,e1,b1,s1,s2,s3,hK⟩:=uS w p s Ab cb As cs A0 c0 A1 c1 A2 c2 A3 c3 A4 c4 A5 c5 A6 c6;rw [e1];have e3:W1.heap.size=w.heap.size+1+1:=s3;have ha:Below W1.heap.size W1 (W1.alloc (.cells #[.slice none 0 0,.slice none 0 0,.slice none 0 0,.slice none 0 0,.slice none 0 0,.slice none 0 0,.slice none 0 0] 31)):=(aj _ _).alloc (aA _) _;have h1:dw (W1.alloc (.cells #[.slice none 0 0,.slice none 0 0,.slice none 0 0,.slice none 0 0,.slice none 0 0,.slice none 0 0,.slice none 0 0] 31)) W1.heap.size 31 [.slice none 0 0,.slice none 0 0,.slice none 0 0,.slice none 0 0,.slice none 0 0,.slice none 0 0,.slice none 0 0]:=dw.new _ _ _;rw [e3] at h1
 refine ⟨_,rfl,b1.trans (ha.mono b1.size),by simp;omega,by simp;omega,Lib.hid (by simp [e3]),Lib.hid fun W hW=>?_,Lib.hid fun W hW=>h1.below hW (by simp;omega)⟩
 exact Gn hK W (ha.trans (hW.mono ha.size))
end Wh
namespace Wh
open Go Go.RowKit Go.Shelf Go.Proofs Tryz
attribute [local go_sem] au
theorem Rj (s:State) (b g:Int) (h:Hold):((h.bin==b)=false∧mZ s b g h=0)∨((h.bin==b)=true∧((s.line h.order.toNat h.line.toNat).good==g)=false∧mZ s b g h=0)∨
  ((h.bin==b)=true∧((s.line h.order.toNat h.line.toNat).good==g)=true∧mZ s b g h=h.n):=by
 unfold mZ;by_cases h1:h.bin=b<;>by_cases h2:(s.line h.order.toNat h.line.toNat).good=g<;>simp [h1,h2]
theorem RI (b g:Int) (x:Move):((x.src==b)=false∧qB b g x=0)∨((x.src==b)=true∧(x.good==g)=false∧qB b g x=0)∨((x.src==b)=true∧(x.good==g)=true∧qB b g x=x.n):=by
 unfold qB;by_cases h1:x.src=b<;>by_cases h2:x.good=g<;>simp [h1,h2]
theorem X9 (b g:Int) (x:Move):((x.dst==b)=false∧toN b g x=0)∨((x.dst==b)=true∧(x.good==g)=false∧toN b g x=0)∨((x.dst==b)=true∧(x.good==g)=true∧toN b g x=x.n):=by
 unfold toN;by_cases h1:x.dst=b<;>by_cases h2:x.good=g<;>simp [h1,h2]
theorem VN (w:World) (v:Value) (p:Plan) (s:State) (b g:Int) (hv:fE w w.heap.size v s) (hs:iI p s):
  Calls prog 70 #[v,.int .i64 b,.int .i64 g] w fun e w'=>e=.returned (.int .i64 (bound s b g))∧Below w.heap.size w w':=by
 have hS:=hv;obtain ⟨_,_,_,_,_,_,_,rfl,⟨A0,c0,vs0,rfl,hl0,hm0,ha0,hr0⟩,⟨A1,c1,vs1,rfl,hl1,hm1,ha1,hr1⟩,⟨A2,c2,rfl,hl2,ha2⟩,⟨A3,c3,rfl,hl3,ha3⟩,⟨A4,c4,rfl,hl4,ha4⟩,⟨A5,c5,rfl,hl5,ha5⟩,⟨A6,c6,rfl,CW,ha6⟩⟩:=hv;have hb0:Below w.heap.size w (w.alloc (.cells #[.slice A0 s.on.length c0,.slice A1 s.orders.length c1,.slice A2 s.holds.length c2,.slice A3 s.moves.length c3,.slice A4 s.inn.length c4,.slice A5 s.out.length c5,.slice A6 s.fixed.length c6] 31)):=(aj _ _).alloc (aA _) _;have hsz0:w.heap.size<(w.alloc (.cells #[.slice A0 s.on.length c0,.slice A1 s.orders.length c1,.slice A2 s.holds.length c2,.slice A3 s.moves.length c3,.slice A4 s.inn.length c4,.slice A5 s.out.length c5,.slice A6 s.fixed.length c6] 31)).heap.size:=by simp
 have hz0:(w.alloc (.cells #[.slice A0 s.on.length c0,.slice A1 s.orders.length c1,.slice A2 s.holds.length c2,.slice A3 s.moves.length c3,.slice A4 s.inn.length c4,.slice A5 s.out.length c5,.slice A6 s.fixed.length c6] 31)).cell? ⟨w.heap.size,1,none⟩=some (.slice A1 s.orders.length c1)∧(w.alloc (.cells #[.slice A0 s.on.length c0,.slice A1 s.orders.length c1,.slice A2 s.holds.length c2,.slice A3 s.moves.length c3,.slice A4 s.inn.length c4,.slice A5 s.out.length c5,.slice A6 s.fixed.length c6] 31)).cell? ⟨w.heap.size,2,none⟩=some (.slice A2 s.holds.length c2)∧(w.alloc (.cells #[.slice A0 s.on.length c0,.slice A1 s.orders.length c1,.slice A2 s.holds.length c2,.slice A3 s.moves.length c3,.slice A4 s.inn.length c4,.slice A5 s.out.length c5,.slice A6 s.fixed.length c6] 31)).cell? ⟨w.heap.size,3,none⟩=some (.slice A3 s.moves.length c3):=by simp
 have ho1:∀ W,Below w.heap.size w W→gI W W.heap.size (.slice A1 s.orders.length c1) s.orders:=fun W hW=>gI.up ⟨A1,c1,vs1,rfl,hl1,hm1,ha1,hr1⟩ hW hW.size
 have jfU:=Lib.hid ho1;have jkB:=jJ hs.holds;have hs8:=hs.lJ;have hs4:=hs.jh;have pJ:=Lib.hid hs;clear ho1 hs;go_enter func70,ntmps70
 go_wp2_with fail;generalize hW0:w.alloc (.cells #[.slice A0 s.on.length c0,.slice A1 s.orders.length c1,.slice A2 s.holds.length c2,.slice A3 s.moves.length c3,.slice A4 s.inn.length c4,.slice A5 s.out.length c5,.slice A6 s.fixed.length c6] 31)=W0 at hb0 hsz0 hz0 ⊢
 obtain ⟨z1,z2,z3⟩:=hz0;clear hW0;go_loopw [7,8,9] (fun n i _ wr=>∃ k:Nat,k≤s.holds.length∧i=.int .i64 k∧n=.int .i64 (FI s b g k)∧Below W0.heap.size W0 wr) (fun n i _ _=>s.holds.length - (intOf i).toNat)
 case atStart=>exact ⟨0,aT _,rfl,rfl,aj _ _⟩
 case round=>
  obtain ⟨k,hk,rfl,rfl,hbw⟩:=hrel;obtain ⟨r1,r2⟩:=tN pJ.out b g k;have y1:=(hbw.cell (p:=⟨w.heap.size,1,none⟩) hsz0).trans z1;have y2:=(hbw.cell (p:=⟨w.heap.size,2,none⟩) hsz0).trans z2;have y3:=(hbw.cell (p:=⟨w.heap.size,3,none⟩) hsz0).trans z3;have hbz:w.heap.size<wr.heap.size:=aZ hsz0 hbw.size;have hB:=hb0.trans (hbw.mono hb0.size);by_cases hlt:k<s.holds.length
  ·obtain ⟨hok,EX,b0,b1,b2,b3⟩:=(ha2.up hB hB.size).hold hlt;obtain ⟨⟨i1,i2⟩,⟨i3,i4⟩,_,i7,i8⟩:=pJ.out.oP hlt;have hol:(hold s.holds k).order.toNat<s.orders.length:=by omega
   obtain ⟨A',c',hok1,yw,_,d1,hsl⟩:=(jfU.out wr hB).order hol;have hll:(hold s.holds k).line.toNat<(ay s.orders (hold s.holds k).order.toNat).lines.length:=by unfold State.order at i4;omega
   obtain ⟨hok2,Jt,e0,_,_,_⟩:=hsl.at_.line hll;have hsucc:=Oc (s:=s) (b:=b) (g:=g) hlt;have i4':(hold s.holds k).line<((ay s.orders (hold s.holds k).order.toNat).lines.length:Int):=i4;have hba:Below W0.heap.size W0 (wr.alloc (.cells #[.int .i64 (hold s.holds k).order,.int .i64 (hold s.holds k).line,.int .i64 (hold s.holds k).bin,.int .i64 (hold s.holds k).n] 46)):=hbw.alloc hbw.size _;have hca:wr.heap.size<(wr.alloc (.cells #[.int .i64 (hold s.holds k).order,.int .i64 (hold s.holds k).line,.int .i64 (hold s.holds k).bin,.int .i64 (hold s.holds k).n] 46)).heap.size:=by simp
   have q0:=fun o d os=>aG (w:=wr.alloc (.cells #[.int .i64 (hold s.holds k).order,.int .i64 (hold s.holds k).line,.int .i64 (hold s.holds k).bin,.int .i64 (hold s.holds k).n] 46)) (b:=w.heap.size) (by simp;omega) o d os
   have q1:=fun o d os=>aG (w:=wr.alloc (.cells #[.int .i64 (hold s.holds k).order,.int .i64 (hold s.holds k).line,.int .i64 (hold s.holds k).bin,.int .i64 (hold s.holds k).n] 46)) (b:=wr.heap.size) hca o d os
   have q2:=fun o d os=>aG (w:=wr.alloc (.cells #[.int .i64 (hold s.holds k).order,.int .i64 (hold s.holds k).line,.int .i64 (hold s.holds k).bin,.int .i64 (hold s.holds k).n] 46)) (b:=dD A1) (by simp;omega) o d os
   have q3:=fun o d os=>aG (w:=wr.alloc (.cells #[.int .i64 (hold s.holds k).order,.int .i64 (hold s.holds k).line,.int .i64 (hold s.holds k).bin,.int .i64 (hold s.holds k).n] 46)) (b:=dD A') (by simp;omega) o d os
   have hl:bH (ay s.orders (hold s.holds k).order.toNat).lines (hold s.holds k).line.toNat=s.line (hold s.holds k).order.toNat (hold s.holds k).line.toNat:=rfl;rw [hl] at e0
   have jql:=Lib.hid hll;clear i4 hl hll;rcases Rj s b g (hold s.holds k) with ⟨g1,gh⟩|⟨g1,g2,gh⟩|⟨g1,g2,gh⟩
   all_goals
    rw [gh] at hsucc
    have hsu:=Lib.hid hsucc;clear hsucc gh;go_wp2_with fail;refine aJ (by kernel_rfl) (by kernel_rfl) ?_
    repeat (go_big_quiet_step (fail))
    refine wpQuiet_nil ?_
    intro W2 hw';have hb2:=aI hw';clear hw';obtain ⟨hc2,hf2⟩:=nP hb2;clear q0 q1 q2 q3;go_wp2_with fail;go_roundw
    case rel=>exact ⟨k+1,by omega,by go_num,by rw [hsu.out]<;>first|rfl|simp,hba.trans (hb2.mono hba.size)⟩
    case measure=>simp [intOf];omega
  ·obtain rfl:k=s.holds.length:=by omega
   rw [yu] at r1 r2 ⊢
   go_wp2_with fail;go_loopw [7,10] (fun n i wr=>∃ k:Nat,k≤s.moves.length∧i=.int .i64 k∧n=.int .i64 (iO s b g+xq s.moves b g k)∧Below W0.heap.size W0 wr) (fun n i _=>s.moves.length - (intOf i).toNat)
   case atStart=>exact ⟨0,aT _,rfl,by unfold xq;simp,hbw⟩
   case round=>
    clear hbw y1 y2 y3 hbz hB;obtain ⟨k,hk,rfl,rfl,hbw⟩:=hrel;obtain ⟨t1,t2⟩:=yI pJ.out b g k;have y3:=(hbw.cell (p:=⟨w.heap.size,3,none⟩) hsz0).trans z3;have hbz:w.heap.size<wr.heap.size:=aZ hsz0 hbw.size;have hB:=hb0.trans (hbw.mono hb0.size);by_cases hlt:k<s.moves.length
    ·obtain ⟨hok,EX,b0,b1,b2,b3⟩:=(ha3.up hB hB.size).move hlt;obtain ⟨_,_,_,_,i7,i8⟩:=pJ.out.aB hlt;have hsucc:=ML (b:=b) (g:=g) hlt;rcases RI b g (aB s.moves k) with ⟨g1,gh⟩|⟨g1,g2,gh⟩|⟨g1,g2,gh⟩
     all_goals
      rw [gh] at hsucc
      have hsu:=Lib.hid hsucc;clear hsucc gh;go_wp2_with fail;go_roundw
      case rel=>exact ⟨k+1,by omega,by go_num,by rw [hsu.out]<;>first|rfl|(simp<;>omega),hbw⟩
      case measure=>simp [intOf];omega
    ·obtain rfl:k=s.moves.length:=by omega
     have hall:=Dw s.moves b g;rw [hall] at t1 t2 ⊢
     clear hall;go_wp2_with fail;go_ret
     exact ⟨rfl,hB⟩
theorem VF (w:World) (v:Value) (p:Plan) (s:State) (b g:Int) (hv:fE w w.heap.size v s) (hs:iI p s):
  Calls prog 62 #[v,.int .i64 b,.int .i64 g] w fun e w'=>e=.returned (.int .i64 (bound s b g))∧Below w.heap.size w w':=by
 have hS:=hv;obtain ⟨_,_,_,_,_,_,_,rfl,⟨A0,c0,vs0,rfl,hl0,hm0,ha0,hr0⟩,⟨A1,c1,vs1,rfl,hl1,hm1,ha1,hr1⟩,⟨A2,c2,rfl,hl2,ha2⟩,⟨A3,c3,rfl,hl3,ha3⟩,⟨A4,c4,rfl,hl4,ha4⟩,⟨A5,c5,rfl,hl5,ha5⟩,⟨A6,c6,rfl,CW,ha6⟩⟩:=hv;have hb0:Below w.heap.size w (w.alloc (.cells #[.slice A0 s.on.length c0,.slice A1 s.orders.length c1,.slice A2 s.holds.length c2,.slice A3 s.moves.length c3,.slice A4 s.inn.length c4,.slice A5 s.out.length c5,.slice A6 s.fixed.length c6] 31)):=(aj _ _).alloc (aA _) _;have hsz0:w.heap.size<(w.alloc (.cells #[.slice A0 s.on.length c0,.slice A1 s.orders.length c1,.slice A2 s.holds.length c2,.slice A3 s.moves.length c3,.slice A4 s.inn.length c4,.slice A5 s.out.length c5,.slice A6 s.fixed.length c6] 31)).heap.size:=by simp
 have hz0:(w.alloc (.cells #[.slice A0 s.on.length c0,.slice A1 s.orders.length c1,.slice A2 s.holds.length c2,.slice A3 s.moves.length c3,.slice A4 s.inn.length c4,.slice A5 s.out.length c5,.slice A6 s.fixed.length c6] 31)).cell? ⟨w.heap.size,1,none⟩=some (.slice A1 s.orders.length c1)∧(w.alloc (.cells #[.slice A0 s.on.length c0,.slice A1 s.orders.length c1,.slice A2 s.holds.length c2,.slice A3 s.moves.length c3,.slice A4 s.inn.length c4,.slice A5 s.out.length c5,.slice A6 s.fixed.length c6] 31)).cell? ⟨w.heap.size,2,none⟩=some (.slice A2 s.holds.length c2)∧(w.alloc (.cells #[.slice A0 s.on.length c0,.slice A1 s.orders.length c1,.slice A2 s.holds.length c2,.slice A3 s.moves.length c3,.slice A4 s.inn.length c4,.slice A5 s.out.length c5,.slice A6 s.fixed.length c6] 31)).cell? ⟨w.heap.size,3,none⟩=some (.slice A3 s.moves.length c3):=by simp
 have ho1:∀ W,Below w.heap.size w W→gI W W.heap.size (.slice A1 s.orders.length c1) s.orders:=fun W hW=>gI.up ⟨A1,c1,vs1,rfl,hl1,hm1,ha1,hr1⟩ hW hW.size
 have jfU:=Lib.hid ho1;have jkB:=jJ hs.holds;have hs8:=hs.lJ;have hs4:=hs.jh;have pJ:=Lib.hid hs;clear ho1 hs;go_enter func62,ntmps62
 go_wp2_with fail;generalize hW0:w.alloc (.cells #[.slice A0 s.on.length c0,.slice A1 s.orders.length c1,.slice A2 s.holds.length c2,.slice A3 s.moves.length c3,.slice A4 s.inn.length c4,.slice A5 s.out.length c5,.slice A6 s.fixed.length c6] 31)=W0 at hb0 hsz0 hz0 ⊢
 obtain ⟨z1,z2,z3⟩:=hz0;clear hW0;go_loopw [7,15,9] (fun n i _ wr=>∃ k:Nat,k≤s.holds.length∧i=.int .i64 k∧n=.int .i64 (FI s b g k)∧Below W0.heap.size W0 wr) (fun n i _ _=>s.holds.length - (intOf i).toNat)
 case atStart=>exact ⟨0,aT _,rfl,rfl,aj _ _⟩
 case round=>
  obtain ⟨k,hk,rfl,rfl,hbw⟩:=hrel;obtain ⟨r1,r2⟩:=tN pJ.out b g k;have y1:=(hbw.cell (p:=⟨w.heap.size,1,none⟩) hsz0).trans z1;have y2:=(hbw.cell (p:=⟨w.heap.size,2,none⟩) hsz0).trans z2;have y3:=(hbw.cell (p:=⟨w.heap.size,3,none⟩) hsz0).trans z3;have hbz:w.heap.size<wr.heap.size:=aZ hsz0 hbw.size;have hB:=hb0.trans (hbw.mono hb0.size);by_cases hlt:k<s.holds.length
  ·obtain ⟨hok,EX,b0,b1,b2,b3⟩:=(ha2.up hB hB.size).hold hlt;obtain ⟨⟨i1,i2⟩,⟨i3,i4⟩,_,i7,i8⟩:=pJ.out.oP hlt;have hol:(hold s.holds k).order.toNat<s.orders.length:=by omega
   obtain ⟨A',c',hok1,yw,_,d1,hsl⟩:=(jfU.out wr hB).order hol;have hll:(hold s.holds k).line.toNat<(ay s.orders (hold s.holds k).order.toNat).lines.length:=by unfold State.order at i4;omega
   obtain ⟨hok2,Jt,e0,_,_,_⟩:=hsl.at_.line hll;have hsucc:=Oc (s:=s) (b:=b) (g:=g) hlt;have i4':(hold s.holds k).line<((ay s.orders (hold s.holds k).order.toNat).lines.length:Int):=i4;have hba:Below W0.heap.size W0 (wr.alloc (.cells #[.int .i64 (hold s.holds k).order,.int .i64 (hold s.holds k).line,.int .i64 (hold s.holds k).bin,.int .i64 (hold s.holds k).n] 46)):=hbw.alloc hbw.size _;have hca:wr.heap.size<(wr.alloc (.cells #[.int .i64 (hold s.holds k).order,.int .i64 (hold s.holds k).line,.int .i64 (hold s.holds k).bin,.int .i64 (hold s.holds k).n] 46)).heap.size:=by simp
   have q0:=fun o d os=>aG (w:=wr.alloc (.cells #[.int .i64 (hold s.holds k).order,.int .i64 (hold s.holds k).line,.int .i64 (hold s.holds k).bin,.int .i64 (hold s.holds k).n] 46)) (b:=w.heap.size) (by simp;omega) o d os
   have q1:=fun o d os=>aG (w:=wr.alloc (.cells #[.int .i64 (hold s.holds k).order,.int .i64 (hold s.holds k).line,.int .i64 (hold s.holds k).bin,.int .i64 (hold s.holds k).n] 46)) (b:=wr.heap.size) hca o d os
   have q2:=fun o d os=>aG (w:=wr.alloc (.cells #[.int .i64 (hold s.holds k).order,.int .i64 (hold s.holds k).line,.int .i64 (hold s.holds k).bin,.int .i64 (hold s.holds k).n] 46)) (b:=dD A1) (by simp;omega) o d os
   have q3:=fun o d os=>aG (w:=wr.alloc (.cells #[.int .i64 (hold s.holds k).order,.int .i64 (hold s.holds k).line,.int .i64 (hold s.holds k).bin,.int .i64 (hold s.holds k).n] 46)) (b:=dD A') (by simp;omega) o d os
   have hl:bH (ay s.orders (hold s.holds k).order.toNat).lines (hold s.holds k).line.toNat=s.line (hold s.holds k).order.toNat (hold s.holds k).line.toNat:=rfl;rw [hl] at e0
   have jql:=Lib.hid hll;clear i4 hl hll;rcases Rj s b g (hold s.holds k) with ⟨g1,gh⟩|⟨g1,g2,gh⟩|⟨g1,g2,gh⟩
   all_goals
    rw [gh] at hsucc
    have hsu:=Lib.hid hsucc;clear hsucc gh;go_wp2_with fail;refine aJ (by kernel_rfl) (by kernel_rfl) ?_
    repeat (go_big_quiet_step (fail))
    refine wpQuiet_nil ?_
    intro W2 hw';have hb2:=aI hw';clear hw';obtain ⟨hc2,hf2⟩:=nP hb2;clear q0 q1 q2 q3;go_wp2_with fail;go_roundw
    case rel=>exact ⟨k+1,by omega,by go_num,by rw [hsu.out]<;>first|rfl|simp,hba.trans (hb2.mono hba.size)⟩
    case measure=>simp [intOf];omega
  ·obtain rfl:k=s.holds.length:=by omega
   rw [yu] at r1 r2 ⊢
   go_wp2_with fail;go_loopw [7,47,11] (fun n i _ wr=>∃ k:Nat,k≤s.moves.length∧i=.int .i64 k∧n=.int .i64 (iO s b g+xq s.moves b g k)∧Below W0.heap.size W0 wr) (fun n i _ _=>s.moves.length - (intOf i).toNat)
   case atStart=>exact ⟨0,aT _,rfl,by unfold xq;simp,hbw⟩
   case round=>
    clear hbw y1 y2 y3 hbz hB;obtain ⟨k,hk,rfl,rfl,hbw⟩:=hrel;obtain ⟨t1,t2⟩:=yI pJ.out b g k;have y3:=(hbw.cell (p:=⟨w.heap.size,3,none⟩) hsz0).trans z3;have hbz:w.heap.size<wr.heap.size:=aZ hsz0 hbw.size;have hB:=hb0.trans (hbw.mono hb0.size);by_cases hlt:k<s.moves.length
    ·obtain ⟨hok,EX,b0,b1,b2,b3⟩:=(ha3.up hB hB.size).move hlt;obtain ⟨_,_,_,_,i7,i8⟩:=pJ.out.aB hlt;have hsucc:=ML (b:=b) (g:=g) hlt;rcases RI b g (aB s.moves k) with ⟨g1,gh⟩|⟨g1,g2,gh⟩|⟨g1,g2,gh⟩
     all_goals
      rw [gh] at hsucc
      have hsu:=Lib.hid hsucc;clear hsucc gh;go_wp2_with fail;go_roundw
      case rel=>exact ⟨k+1,by omega,by go_num,by rw [hsu.out]<;>first|rfl|(simp<;>omega),hbw.alloc hbw.size (.cells #[.int .i64 (aB s.moves k).good,.int .i64 (aB s.moves k).src,.int .i64 (aB s.moves k).dst,.int .i64 (aB s.moves k).n] 48)⟩
      case measure=>simp [intOf];omega
    ·obtain rfl:k=s.moves.length:=by omega
     have hall:=Dw s.moves b g;rw [hall] at t1 t2 ⊢
     clear hall;go_wp2_with fail;go_ret
     exact ⟨rfl,hB⟩
theorem Fe (w:World) (v:Value) (p:Plan) (s:State) (b g:Int) (hv:fE w w.heap.size v s) (hs:iI p s):
  Calls prog 107 #[v,.int .i64 b,.int .i64 g] w fun e w'=>e=.returned (.int .i64 (coming s b g))∧Below w.heap.size w w':=by
 have hS:=hv;obtain ⟨_,_,_,_,_,_,_,rfl,⟨A0,c0,vs0,rfl,hl0,hm0,ha0,hr0⟩,⟨A1,c1,vs1,rfl,hl1,hm1,ha1,hr1⟩,⟨A2,c2,rfl,hl2,ha2⟩,⟨A3,c3,rfl,hl3,ha3⟩,⟨A4,c4,rfl,hl4,ha4⟩,⟨A5,c5,rfl,hl5,ha5⟩,⟨A6,c6,rfl,CW,ha6⟩⟩:=hv;have hb0:Below w.heap.size w (w.alloc (.cells #[.slice A0 s.on.length c0,.slice A1 s.orders.length c1,.slice A2 s.holds.length c2,.slice A3 s.moves.length c3,.slice A4 s.inn.length c4,.slice A5 s.out.length c5,.slice A6 s.fixed.length c6] 31)):=(aj _ _).alloc (aA _) _;have hsz0:w.heap.size<(w.alloc (.cells #[.slice A0 s.on.length c0,.slice A1 s.orders.length c1,.slice A2 s.holds.length c2,.slice A3 s.moves.length c3,.slice A4 s.inn.length c4,.slice A5 s.out.length c5,.slice A6 s.fixed.length c6] 31)).heap.size:=by simp
 have hz0:(w.alloc (.cells #[.slice A0 s.on.length c0,.slice A1 s.orders.length c1,.slice A2 s.holds.length c2,.slice A3 s.moves.length c3,.slice A4 s.inn.length c4,.slice A5 s.out.length c5,.slice A6 s.fixed.length c6] 31)).cell? ⟨w.heap.size,1,none⟩=some (.slice A1 s.orders.length c1)∧(w.alloc (.cells #[.slice A0 s.on.length c0,.slice A1 s.orders.length c1,.slice A2 s.holds.length c2,.slice A3 s.moves.length c3,.slice A4 s.inn.length c4,.slice A5 s.out.length c5,.slice A6 s.fixed.length c6] 31)).cell? ⟨w.heap.size,2,none⟩=some (.slice A2 s.holds.length c2)∧(w.alloc (.cells #[.slice A0 s.on.length c0,.slice A1 s.orders.length c1,.slice A2 s.holds.length c2,.slice A3 s.moves.length c3,.slice A4 s.inn.length c4,.slice A5 s.out.length c5,.slice A6 s.fixed.length c6] 31)).cell? ⟨w.heap.size,3,none⟩=some (.slice A3 s.moves.length c3):=by simp
 have ho1:∀ W,Below w.heap.size w W→gI W W.heap.size (.slice A1 s.orders.length c1) s.orders:=fun W hW=>gI.up ⟨A1,c1,vs1,rfl,hl1,hm1,ha1,hr1⟩ hW hW.size
 have jfU:=Lib.hid ho1;have jkB:=jJ hs.holds;have hs8:=hs.lJ;have hs4:=hs.jh;have pJ:=Lib.hid hs;clear ho1 hs;go_enter func107,ntmps107
 go_wp2_with fail;generalize hW0:w.alloc (.cells #[.slice A0 s.on.length c0,.slice A1 s.orders.length c1,.slice A2 s.holds.length c2,.slice A3 s.moves.length c3,.slice A4 s.inn.length c4,.slice A5 s.out.length c5,.slice A6 s.fixed.length c6] 31)=W0 at hb0 hsz0 hz0 ⊢
 obtain ⟨z1,z2,z3⟩:=hz0;clear hW0;go_loopw [7,8] (fun n i wr=>∃ k:Nat,k≤s.moves.length∧i=.int .i64 k∧n=.int .i64 (xw s.moves b g k)∧Below W0.heap.size W0 wr) (fun n i _=>s.moves.length - (intOf i).toNat)
 case atStart=>exact ⟨0,aT _,rfl,rfl,aj _ _⟩
 case round=>
  skip
  obtain ⟨k,hk,rfl,rfl,hbw⟩:=hrel;obtain ⟨t1,t2⟩:=CP pJ.out b g k;have y3:=(hbw.cell (p:=⟨w.heap.size,3,none⟩) hsz0).trans z3;have hbz:w.heap.size<wr.heap.size:=aZ hsz0 hbw.size;have hB:=hb0.trans (hbw.mono hb0.size);by_cases hlt:k<s.moves.length
  ·obtain ⟨hok,EX,b0,b1,b2,b3⟩:=(ha3.up hB hB.size).move hlt;obtain ⟨_,_,_,_,i7,i8⟩:=pJ.out.aB hlt;have hsucc:=JM (b:=b) (g:=g) hlt;rcases X9 b g (aB s.moves k) with ⟨g1,gh⟩|⟨g1,g2,gh⟩|⟨g1,g2,gh⟩
   all_goals
    rw [gh] at hsucc
    have hsu:=Lib.hid hsucc;clear hsucc gh;go_wp2_with fail;go_roundw
    case rel=>exact ⟨k+1,by omega,by go_num,by rw [hsu.out]<;>first|rfl|(simp<;>omega),hbw⟩
    case measure=>simp [intOf];omega
  ·obtain rfl:k=s.moves.length:=by omega
   have hall:=FU s.moves b g;rw [hall] at t1 t2 ⊢
   clear hall;go_wp2_with fail;go_ret
   exact ⟨rfl,hB⟩
theorem OX (w:World) (v:Value) (p:Plan) (s:State) (b g:Int) (hv:fE w w.heap.size v s) (hs:iI p s):
  Calls prog 94 #[v,.int .i64 b,.int .i64 g] w fun e w'=>e=.returned (.int .i64 (coming s b g))∧Below w.heap.size w w':=by
 have hS:=hv;obtain ⟨_,_,_,_,_,_,_,rfl,⟨A0,c0,vs0,rfl,hl0,hm0,ha0,hr0⟩,⟨A1,c1,vs1,rfl,hl1,hm1,ha1,hr1⟩,⟨A2,c2,rfl,hl2,ha2⟩,⟨A3,c3,rfl,hl3,ha3⟩,⟨A4,c4,rfl,hl4,ha4⟩,⟨A5,c5,rfl,hl5,ha5⟩,⟨A6,c6,rfl,CW,ha6⟩⟩:=hv;have hb0:Below w.heap.size w (w.alloc (.cells #[.slice A0 s.on.length c0,.slice A1 s.orders.length c1,.slice A2 s.holds.length c2,.slice A3 s.moves.length c3,.slice A4 s.inn.length c4,.slice A5 s.out.length c5,.slice A6 s.fixed.length c6] 31)):=(aj _ _).alloc (aA _) _;have hsz0:w.heap.size<(w.alloc (.cells #[.slice A0 s.on.length c0,.slice A1 s.orders.length c1,.slice A2 s.holds.length c2,.slice A3 s.moves.length c3,.slice A4 s.inn.length c4,.slice A5 s.out.length c5,.slice A6 s.fixed.length c6] 31)).heap.size:=by simp
 have hz0:(w.alloc (.cells #[.slice A0 s.on.length c0,.slice A1 s.orders.length c1,.slice A2 s.holds.length c2,.slice A3 s.moves.length c3,.slice A4 s.inn.length c4,.slice A5 s.out.length c5,.slice A6 s.fixed.length c6] 31)).cell? ⟨w.heap.size,1,none⟩=some (.slice A1 s.orders.length c1)∧(w.alloc (.cells #[.slice A0 s.on.length c0,.slice A1 s.orders.length c1,.slice A2 s.holds.length c2,.slice A3 s.moves.length c3,.slice A4 s.inn.length c4,.slice A5 s.out.length c5,.slice A6 s.fixed.length c6] 31)).cell? ⟨w.heap.size,2,none⟩=some (.slice A2 s.holds.length c2)∧(w.alloc (.cells #[.slice A0 s.on.length c0,.slice A1 s.orders.length c1,.slice A2 s.holds.length c2,.slice A3 s.moves.length c3,.slice A4 s.inn.length c4,.slice A5 s.out.length c5,.slice A6 s.fixed.length c6] 31)).cell? ⟨w.heap.size,3,none⟩=some (.slice A3 s.moves.length c3):=by simp
 have ho1:∀ W,Below w.heap.size w W→gI W W.heap.size (.slice A1 s.orders.length c1) s.orders:=fun W hW=>gI.up ⟨A1,c1,vs1,rfl,hl1,hm1,ha1,hr1⟩ hW hW.size
 have jfU:=Lib.hid ho1;have jkB:=jJ hs.holds;have hs8:=hs.lJ;have hs4:=hs.jh;have pJ:=Lib.hid hs;clear ho1 hs;go_enter func94,ntmps94
 go_wp2_with fail;generalize hW0:w.alloc (.cells #[.slice A0 s.on.length c0,.slice A1 s.orders.length c1,.slice A2 s.holds.length c2,.slice A3 s.moves.length c3,.slice A4 s.inn.length c4,.slice A5 s.out.length c5,.slice A6 s.fixed.length c6] 31)=W0 at hb0 hsz0 hz0 ⊢
 obtain ⟨z1,z2,z3⟩:=hz0;clear hW0;go_loopw [7,13,9] (fun n i _ wr=>∃ k:Nat,k≤s.moves.length∧i=.int .i64 k∧n=.int .i64 (xw s.moves b g k)∧Below W0.heap.size W0 wr) (fun n i _ _=>s.moves.length - (intOf i).toNat)
 case atStart=>exact ⟨0,aT _,rfl,rfl,aj _ _⟩
 case round=>
  skip
  obtain ⟨k,hk,rfl,rfl,hbw⟩:=hrel;obtain ⟨t1,t2⟩:=CP pJ.out b g k;have y3:=(hbw.cell (p:=⟨w.heap.size,3,none⟩) hsz0).trans z3;have hbz:w.heap.size<wr.heap.size:=aZ hsz0 hbw.size;have hB:=hb0.trans (hbw.mono hb0.size);by_cases hlt:k<s.moves.length
  ·obtain ⟨hok,EX,b0,b1,b2,b3⟩:=(ha3.up hB hB.size).move hlt;obtain ⟨_,_,_,_,i7,i8⟩:=pJ.out.aB hlt;have hsucc:=JM (b:=b) (g:=g) hlt;rcases X9 b g (aB s.moves k) with ⟨g1,gh⟩|⟨g1,g2,gh⟩|⟨g1,g2,gh⟩
   all_goals
    rw [gh] at hsucc
    have hsu:=Lib.hid hsucc;clear hsucc gh;go_wp2_with fail;go_roundw
    case rel=>exact ⟨k+1,by omega,by go_num,by rw [hsu.out]<;>first|rfl|(simp<;>omega),hbw.alloc hbw.size (.cells #[.int .i64 (aB s.moves k).good,.int .i64 (aB s.moves k).src,.int .i64 (aB s.moves k).dst,.int .i64 (aB s.moves k).n] 48)⟩
    case measure=>simp [intOf];omega
  ·obtain rfl:k=s.moves.length:=by omega
   have hall:=FU s.moves b g;rw [hall] at t1 t2 ⊢
   clear hall;go_wp2_with fail;go_ret
   exact ⟨rfl,hB⟩
end Wh
namespace Wh
open Go Go.RowKit Go.Shelf Go.Proofs Tryz
attribute [local go_sem] au
theorem Fj (n lo hi:Int) (w:World):
  Calls prog 147 #[.int .i64 n,.int .i64 lo,.int .i64 hi] w fun e w'=>e=.returned (.bool (within n lo hi))∧w=w':=by
 go_enter func147,ntmps147
 by_cases h1:lo≤n
 ·by_cases h2:n≤hi
  ·go_wp2
   go_ret
   exact ⟨by simp [within,h1,h2],rfl⟩
  ·go_wp2
   go_ret
   exact ⟨by simp [within];omega,rfl⟩
 ·go_wp2
  go_ret
  exact ⟨by simp [within];omega,rfl⟩
theorem jhS (b:Bin) (W:World):
  Calls prog 149 #[jhy b] W fun e W'=>e=.returned (.bool (!rH b))∧Below W.heap.size W W':=by
 unfold jhy;go_enter func149,ntmps149
 rcases jeb b with ⟨h1,h⟩|⟨h1,h2,h⟩|⟨h1,h2,h3,h⟩|⟨h1,h2,h3,h⟩
 ·go_wp2_with (go_at_call 147;refine (Fj _ _ _ _).mono ?_;rintro e w' ⟨rfl,rfl⟩)
  go_ret
  exact ⟨aY (by rw [h];rfl),(aj _ _).alloc (aA _) _⟩
 ·go_wp2_with (go_at_call 147;refine (Fj _ _ _ _).mono ?_;rintro e w' ⟨rfl,rfl⟩)
  go_ret
  exact ⟨aY (by rw [h];rfl),(aj _ _).alloc (aA _) _⟩
 ·go_wp2_with (go_at_call 147;refine (Fj _ _ _ _).mono ?_;rintro e w' ⟨rfl,rfl⟩)
  go_ret
  exact ⟨aY (by rw [h];rfl),(aj _ _).alloc (aA _) _⟩
 ·go_wp2_with (go_at_call 147;refine (Fj _ _ _ _).mono ?_;rintro e w' ⟨rfl,rfl⟩)
  go_ret
  exact ⟨aY (by rw [h];simp;omega),(aj _ _).alloc (aA _) _⟩
theorem jdZ:Enters prog 149:=enters_of func149 (by kernel_rfl) rfl
theorem I8 (w:World) (v:Value) (p:Plan) (hp:fZ w w.heap.size v p):
  Calls prog 87 #[v] w fun e w'=>e=.returned (.int .i64 (bK p))∧Below w.heap.size w w':=by
 obtain ⟨_,_,rfl,⟨Ab,cb,rfl,hlb,hb⟩,⟨As,cs,rfl,hls,hs⟩⟩:=hp;have hb0:Below w.heap.size w (w.alloc (.cells #[.slice Ab p.aH.length cb,.slice As p.sizes.length cs] 25)):=(aj _ _).alloc (aA _) _;go_enter func87,ntmps87
 cases h1:within p.aH.length 1 6
 ·go_wp2_with (go_at_call 147;refine (Fj _ _ _ _).mono ?_;rintro e w' ⟨rfl,rfl⟩)
  go_ret
  exact ⟨bT (yK (.inl h1)).symm,hb0⟩
 cases h2:within p.sizes.length 1 3
 ·go_wp2_with (go_at_call 147;refine (Fj _ _ _ _).mono ?_;rintro e w' ⟨rfl,rfl⟩)
  go_ret
  exact ⟨bT (yK (.inr h2)).symm,hb0⟩
 have hpos:0<p.sizes.length:=by have:=within_iff.1 h2;omega
 have hsb:∀ W,Below w.heap.size w W→Sl Jv W W.heap.size (.slice Ab p.aH.length cb) p.aH:=fun W hW=>Sl.up ⟨Ab,cb,rfl,hlb,hb⟩ hW hW.size
 have hss:∀ W,Below w.heap.size w W→Sl dY W W.heap.size (.slice As p.sizes.length cs) p.sizes:=fun W hW=>Sl.up ⟨As,cs,rfl,hls,hs⟩ hW hW.size
 go_wp2_with (go_at_call 147;refine (Fj _ _ _ _).mono ?_;rintro e w' ⟨rfl,rfl⟩)
 refine (OT _ _ p.aH 149 #[] (fun b=>!rH b) jdZ (hsb _ hb0) (fun k _ W _=>jhS _ W)).mono ?_
 rintro e W1 ⟨rfl,hb1⟩;have hbw:=hb0.trans (hb1.mono (by simp))
 have hsz:=hb1.size;obtain ⟨hc1,hf1⟩:=nP hb1;cases hbad:(p.aH.any fun b=>!rH b)
 ·go_wp2_with fail;refine (jex _ _ p.sizes (hss _ hbw) hpos).mono ?_
  rintro e w' ⟨rfl,rfl⟩;by_cases hlo:lowest p.sizes<1
  ·go_wp2_with fail;go_ret
   exact ⟨bT (NP h1 h2 hlo).symm,hbw⟩
  ·go_wp2_with fail;refine (jey _ _ p.sizes (hss _ hbw) hpos).mono ?_
   rintro e w' ⟨rfl,rfl⟩;by_cases hgr:9<greatest p.sizes
   ·go_wp2_with fail;go_ret
    exact ⟨bT (KL h1 h2 hgr).symm,hbw⟩
   ·go_wp2_with fail;go_ret
    exact ⟨bT (SE h1 h2 hbad (by omega) (by omega)).symm,hbw⟩
 ·go_wp2_with fail;go_ret
  exact ⟨bT (Ue h1 h2 hbad).symm,hbw⟩
end Wh
namespace Wh
open Go Go.RowKit Go.Shelf Go.Proofs Tryz
attribute [local go_sem] au
theorem vw (w:World) (v:Value) (p:Plan) (b:Int) (hp:fZ w w.heap.size v p) (hn:p.aH.length≤1000):
  Calls prog 68 #[v,.int .i64 b] w fun e w'=>e=.returned (.bool (fD p b))∧Below w.heap.size w w':=by
 obtain ⟨_,_,rfl,⟨Ab,cb,rfl,hlb,hb⟩,⟨As,cs,rfl,hls,hs⟩⟩:=hp;go_enter func68,ntmps68
 go_wp2_with (go_at_call 38;refine (iw _ _ _ _).mono ?_;rintro e w' ⟨rfl,rfl⟩)
 go_ret
 exact ⟨rfl,(aj _ _).alloc (aA _) _⟩
theorem uV (w:World) (v:Value) (p:Plan) (g:Int) (hp:fZ w w.heap.size v p) (hn:p.sizes.length≤1000):
  Calls prog 69 #[v,.int .i64 g] w fun e w'=>e=.returned (.bool (bU p g))∧Below w.heap.size w w':=by
 obtain ⟨_,_,rfl,⟨Ab,cb,rfl,hlb,hb⟩,⟨As,cs,rfl,hls,hs⟩⟩:=hp;go_enter func69,ntmps69
 go_wp2_with (go_at_call 38;refine (iw _ _ _ _).mono ?_;rintro e w' ⟨rfl,rfl⟩)
 go_ret
 exact ⟨rfl,(aj _ _).alloc (aA _) _⟩
theorem Ya (p:Plan) (b g:Int):(b<0∧(fD p b&&bU p g)=false)∨(0≤b∧(p.aH.length:Int)≤b∧(fD p b&&bU p g)=false)∨
  (0≤b∧b<p.aH.length∧g<0∧(fD p b&&bU p g)=false)∨(0≤b∧b<p.aH.length∧0≤g∧(p.sizes.length:Int)≤g∧(fD p b&&bU p g)=false)∨
  (0≤b∧b<p.aH.length∧0≤g∧g<p.sizes.length∧(fD p b&&bU p g)=true):=by
 have h1:=@oU p b;have h2:=@lM p g;cases hb:fD p b<;>cases hg:bU p g<;>simp [hb,hg] at h1 h2 ⊢<;>omega
theorem Dh (w:World) (v:Value) (p:Plan) (b g:Int) (hp:fZ w w.heap.size v p):
  Calls prog 60 #[v,.int .i64 b,.int .i64 g] w fun e w'=>e=.returned (.bool (fD p b&&bU p g))∧Below w.heap.size w w':=by
 obtain ⟨_,_,rfl,⟨Ab,cb,rfl,hlb,hb⟩,⟨As,cs,rfl,hls,hs⟩⟩:=hp;go_enter func60,ntmps60
 rcases Ya p b g with ⟨h1,h⟩|⟨h1,h2,h⟩|⟨h1,h2,h3,h⟩|⟨h1,h2,h3,h4,h⟩|⟨h1,h2,h3,h4,h⟩
 all_goals
  go_wp2
  go_ret
  exact ⟨aY (by first|rfl|(simp<;>omega)|(rw [h]<;>first|rfl|(simp<;>omega))),(aj _ _).alloc (aA _) _⟩
theorem jeD (p:Plan) (row:List Int) (W:World) (B:Nat) (u:Value) (hn:0<p.sizes.length) (As:Option Addr) (cs:Nat) (hc:W.cell? ⟨B,1,none⟩=some (.slice As p.sizes.length cs)) (hu:Sl dY W W.heap.size u row):
  Calls prog 127 #[u,.pointer (some ⟨B,0,none⟩)] W fun e W'=>e=.returned (.bool (!rowOk p row))∧Below W.heap.size W W':=by
 have hu':=hu;obtain ⟨A,c,rfl,hl,hA⟩:=hu;go_enter func127,ntmps127
 rcases jdh row hn with ⟨h1,h⟩|⟨h1,h2,h⟩|⟨h1,h2,h3,h⟩|⟨h1,h2,h3,h⟩
 ·go_wp2_with fail;go_ret
  exact ⟨aY (by rw [h];rfl),aj _ _⟩
 all_goals
  have hpos:0<row.length:=by omega
  have hle1:=lY h1;have hle2:=lY h1.symm;clear h1;go_wp2_with (first|(go_at_call 128;refine (jex _ _ row hu' hpos).mono ?_;rintro e w' ⟨rfl,rfl⟩)|(go_at_call 129;refine (jey _ _ row hu' hpos).mono ?_;rintro e w' ⟨rfl,rfl⟩))
  go_ret
  exact ⟨aY (by first|rfl|(simp<;>omega)|(rw [h]<;>first|rfl|(simp<;>omega))),aj _ _⟩
theorem RY:Enters prog 127:=enters_of func127 (by kernel_rfl) rfl
end Wh
