/- Texts of the claim, joined. -/
import Derived.WideMake
import Derived.Test.YtniaecolikhmeaaGreatDoorQ06
set_option maxHeartbeats 20000000
set_option maxRecDepth 100000
set_option linter.all false
namespace Wh
open Go Go.RowKit
section
section
variable {P:Program} {l:List Oper} {n:Nat} {R:Nat→(Nat→Value)→World→Prop} {Q:Exit→Act→World→Prop} {a:Act} {w:World}
def sN(P:Program)(l:List Oper)(n:Nat)(Rs:List uq)(a:Act)(w:World)(i:Nat)(o:Oper)(p:uq):Prop:=
 (∀g w1 w2,p g w1->Below w1.heap.size w1 w2->p g w2)/\(∀g g' w,(∀j o d,TJ l j i->l[j]?=some o->o.dst=some d->g d=g' d)->p g w->p g' w)/\
 ∀g w',Below w w w'->(∀d,((l.take n).filterMap (·.dst)).contains d=false->g d=a.tmps.getD d undef)->G6 n (atR Rs) g w' o->iq P o (TN g) w' λv w''=>p (xB g o.dst v) w''/\Below w'.heap.size w' w''
def bT(P:Program)(l:List Oper)(n:Nat)(Rs:List uq)(a:Act)(w:World):Nat->List Oper->List uq->Prop
 |_,[],_=>True
 |_,_::_,[]=>False
 |i,o::r,p::ps=>sN P l n Rs a w i o p/\bT P l n Rs a w (i+1) r ps
theorem bT.brk{Rs:List uq}:∀ {r:List Oper} {ps:List uq} {i:Nat},bT P l n Rs a w i r ps->i+r.length<=n->fQ P l n Rs a (λw'=>Below w w w') (λ_=>True) (λ_ _=>False) n i r ps
 |[],_,_,_,_=>fQ.nil
 |_::_,[],_,h,_=>h.elim
 |o::r,p::ps,i,⟨⟨h1,h2,h3⟩,h'⟩,hl=>by
  rw[bP]at hl
  exact⟨⟨h1,λ_ _ _ _ _ he=>he.elim,h2,λg w' hT _ hout hd=>iq.mono (λv w'' hk=>⟨hk.1,.inl ⟨by omega,hk.2⟩⟩) (h3 g w' hT hout hd)⟩,bT.brk h' (by omega)⟩
theorem jbw(n:Nat)(Rs:List uq)(hB:Oz l n=true)(hn:Rs.length=n)(hsz:((l.take n).filterMap (·.dst)).all (λd=>decide (d<a.tmps.size))=true)
  (hops:bT P l n Rs a w 0 (l.take n) Rs) (hend:∀f w',Below w w w'->Jh Rs f w'->wpList P l.toArray Q (l.drop n) (kP a (l.take n) f) w'):wpAny P .any l.toArray Q l.toArray.size (Array.replicate l.toArray.size false) a w.drew:=
 Yj n _ _ _ n Rs hB hn hsz (λw1 w2 h hb=>fD h hb) (λ_ _ _ he=>he.elim) (λ_ _ h _=>h) (aj _ _).drew trivial (hops.brk (by rw[bC];omega)) hend
theorem EU(n:Nat)(Rs:List uq){id:Nat}(hm:P.follows .mixedOrders=true)(hB:Oz l n=true)(hn:Rs.length=n)(hsz:((l.take n).filterMap (·.dst)).all (λd=>decide (d<a.tmps.size))=true)
  (hops:bT P l n Rs a w 0 (l.take n) Rs) (hend:∀f w',Below w w w'->Jh Rs f w'->wpList P l.toArray Q (l.drop n) (kP a (l.take n) f) w'):(Code.region id l.toArray true).wp P Q a w:=
 DF hm (jbw n Rs hB hn hsz hops hend)
theorem IX(n:Nat)(Rs:List uq){id:Nat}(hops:bT P l n Rs a w 0 (l.take n) Rs)(hend:∀f w',Below w w w'->Jh Rs f w'->wpList P l.toArray Q (l.drop n) (kP a (l.take n) f) w')
  (hm:P.follows .mixedOrders=true:=by kernel_rfl) (hB:Oz l n=true:=by kernel_rfl) (hn:Rs.length=n:=by rfl) (hsz:((l.take n).filterMap (·.dst)).all (λd=>decide (d<a.tmps.size))=true:=by kernel_rfl):(Code.region id l.toArray true).wp P Q a w:=EU n Rs hm hB hn hsz hops hend
theorem bT.nil{Rs:List uq}{i:Nat}{ps:List uq}:bT P l n Rs a w i [] ps:=by cases ps<;>trivial
theorem bT.cons{Rs:List uq}{i:Nat}{o:Oper}{r:List Oper}{p:uq}{ps:List uq}(h:sN P l n Rs a w i o p)(h':bT P l n Rs a w (i+1) r ps):bT P l n Rs a w i (o::r) (p::ps):=⟨h,h'⟩
theorem sN.val{Rs:List uq}{i d:Nat}{o:Oper}{c:Value}(hi:l[i]?=some o)(ho:o.dst=some d)
  (h:∀g w',Below w w w'->(∀d,((l.take n).filterMap (·.dst)).contains d=false->g d=a.tmps.getD d undef)->G6 n (atR Rs) g w' o->(execOp (TN g) o).run P w'=.ok (.value c) w'):
  sN P l n Rs a w i o (λg _=>g d=c):=by
 refine⟨λ_ _ _ h _=>h,λg g' _ he h=>(he i o d (TJ.self i) hi ho).symm.trans h,λg w' hb hout hd=>?_⟩
 unfold iq;rw[h g w' hb hout hd];refine⟨?_,aj _ _⟩
 rw[ho];unfold xB upd;simp
theorem bT.v{Rs:List uq}{i d:Nat}{o:Oper}{c:Value}{r:List Oper}{ps:List uq}
  (h:∀g w',Below w w w'->(∀d,((l.take n).filterMap (·.dst)).contains d=false->g d=a.tmps.getD d undef)->G6 n (atR Rs) g w' o->(execOp (TN g) o).run P w'=.ok (.value c) w')
  (h':bT P l n Rs a w (i+1) r ps) (hi:l[i]?=some o:=by rfl) (ho:o.dst=some d:=by rfl):bT P l n Rs a w i (o::r) ((λg _=>g d=c)::ps):=⟨sN.val hi ho h,h'⟩
theorem sN.one{Rs:List uq}{i d:Nat}{o:Oper}{p:Value->World->Prop}(hi:l[i]?=some o)(ho:o.dst=some d)(hst:∀v w1 w2,p v w1->Below w1.heap.size w1 w2->p v w2)
  (h:∀g w',Below w w w'->(∀d,((l.take n).filterMap (·.dst)).contains d=false->g d=a.tmps.getD d undef)->G6 n (atR Rs) g w' o->iq P o (TN g) w' λv w''=>p v w''/\Below w'.heap.size w' w''):
  sN P l n Rs a w i o (λg w=>p (g d) w):=by
 refine⟨λg w1 w2 h hb=>hst _ _ _ h hb,λg g' w1 he h=>?_,λg w' hb hout hd=>?_⟩
 ·show p (g' d) w1;rw[<- he i o d (TJ.self i) hi ho];exact h
 ·have:=h g w' hb hout hd;rw[ho];have e:∀v,xB g (some d) v d=v:=λv=>by unfold xB upd;simp
  simpa only[e]using this
end
end
section
structure GB where
 d:Nat
 os:Array Obj
instance:Inhabited GB:=⟨⟨0,#[]⟩⟩
def wld(w:World)(d:Nat)(os:Array Obj):World:={w with drawn:=d,heap:=w.heap++os}
theorem kH(w:World)(d:Nat)(os:Array Obj):Below w w (wld w d os):=
 ⟨rfl,rfl,rfl,by simp[wld],λk hk=>by simp[wld,zh hk]⟩
theorem jal{w w':World}(h:Below w w w'):∃p:GB,w'=wld w p.d p.os:=by
 obtain⟨h1,h2,h3,h4,h5⟩:=h;obtain⟨heap,tape,drawn,os,output⟩:=w';refine⟨⟨drawn,heap.extract w heap.size⟩,?_⟩
 simp only at h1 h2 h3 h4 h5
 subst h1 h2 h3;unfold wld;congr 1
 apply pI;intro k;by_cases hk:k<w.heap.size
 ·rw[h5 k hk,zh hk]
 ·rw[Array.getElem?_append_right (by omega)]
  simp only[Array.getElem?_extract]
  by_cases hl:k<heap.size
  ·rw[aB (by omega)]
   congr 1
   omega
  ·rw[au (by omega),iF (by omega)]
theorem cZ{w:World}{b:Nat}(hb:b<w.heap.size)(o:Nat)(d:Nat)(os:Array Obj):(wld w d os).cell? ⟨b,o,none⟩=w.cell? ⟨b,o,none⟩:=
 (kH w d os).cell (p:=⟨b,o,none⟩) hb
theorem dO{P:Program}{id:Nat}{Q:Exit->Act->World->Prop}{a:Act}{w:World}{l:List Oper}(hm:P.follows .mixedOrders=true)(hB:Region.lexB .any l.toArray=true)
  (h:wpQuiet P l.toArray (λw'=>∃p:GB,w'=wld w p.d p.os) (λa'=>∀w',(∃p:GB,w'=wld w p.d p.os)->Q .normal a' w') l a):(Code.region id l.toArray true).wp P Q a w:=
 wp_region_quiet (C:=λw'=>∃p:GB,w'=wld w p.d p.os) hm hB ⟨⟨w.drawn+1,#[]⟩,by simp[wld]⟩ (by simpa using h)
theorem fV{P:Program}{f:FuncId}{args:Array Value}{w:World}{d:Nat}{os:Array Obj}{v:Value}
  (h:Calls P f args (wld w d os) λe w'=>e=.returned v/\Below (wld w d os).heap.size (wld w d os) w'):Calls P f args (wld w d os) λe w''=>e=.returned v/\∃p:GB,w''=wld w p.d p.os:=
 h.mono λ_ _ ⟨he,hb⟩=>⟨he,jal ((kH w d os).trans (hb.mono (kH w d os).size))⟩
theorem yR{P:Program}{f:FuncId}{args:Array Value}{w:World}{d:Nat}{os:Array Obj}{v:Value}
  (h:Calls P f args (wld w d os) λe w'=>e=.returned v/\wld w d os=w'):Calls P f args (wld w d os) λe w''=>e=.returned v/\∃p:GB,w''=wld w p.d p.os:=
 h.mono λ_ _ ⟨he,hb⟩=>⟨he,⟨d,os⟩,hb.symm⟩
theorem dN{w W:World}(h:∃p:GB,W=wld w p.d p.os):Below w w W:=by
 obtain⟨p,rfl⟩:=h;exact kH w p.d p.os
end
end Wh
namespace Wh
open Go Go.RowKit Go.Proofs Tryz
section
theorem lY{w:World}{vs:Value}{s:aI}(hv:kG w w vs s):∃A0 c0 A1 c1 A2 c2 A3 c3 A4 c4 A5 c5 A6 c6,vs=.agg (Uy s A0 c0 A1 c1 A2 c2 A3 c3 A4 c4 A5 c5 A6 c6)/\Hid (∀W,Below w w W->kG W W.heap.size (.agg (Uy s A0 c0 A1 c1 A2 c2 A3 c3 A4 c4 A5 c5 A6 c6)) s)/\Hid (∀W,Below w w W->KJ iW W W.heap.size (.slice A0 s.on.length c0) s.on)/\Hid (∀W,Below w w W->oW W W.heap.size (.slice A1 s.ak.length c1) s.ak)/\Hid (∀W,Below w w W->Sl iD W W.heap.size (.slice A2 s.aA.length c2) s.aA)/\Hid (∀W,Below w w W->Sl oC W W.heap.size (.slice A3 s.aF.length c3) s.aF)/\Hid (∀W,Below w w W->Sl iW W W.heap.size (.slice A4 s.jf.length c4) s.jf)/\Hid (∀W,Below w w W->Sl iW W W.heap.size (.slice A5 s.O.length c5) s.O)/\Hid (∀W,Below w w W->Sl iW W W.heap.size (.slice A6 s.dB.length c6) s.dB)/\s.on.length<=140737488355232/\s.ak.length<=140737488355232/\s.aA.length<=140737488355232/\s.aF.length<=140737488355232/\s.jf.length<=140737488355232/\s.O.length<=140737488355232/\s.dB.length<=140737488355232:=by
 have hS:=hv;obtain⟨_,_,_,_,_,_,_,rfl,⟨A0,c0,vs0,rfl,hl0,hm0,ha0,hr0⟩,⟨A1,c1,vs1,rfl,hl1,hm1,ha1,hr1⟩,⟨A2,c2,rfl,hl2,ha2⟩,⟨A3,c3,rfl,hl3,ha3⟩,⟨A4,c4,rfl,hl4,ha4⟩,⟨A5,c5,rfl,hl5,ha5⟩,⟨A6,c6,rfl,Jb,ha6⟩⟩:=hv;exact⟨A0,c0,A1,c1,A2,c2,A3,c3,A4,c4,A5,c5,A6,c6,rfl,ah (λW hW=>hS.up hW hW.size),ah (λW hW=>KJ.up ⟨A0,c0,vs0,rfl,hl0,hm0,ha0,hr0⟩ hW hW.size),ah (λW hW=>oW.up ⟨A1,c1,vs1,rfl,hl1,hm1,ha1,hr1⟩ hW hW.size),ah (λW hW=>Sl.up ⟨A2,c2,rfl,hl2,ha2⟩ hW hW.size),ah (λW hW=>Sl.up ⟨A3,c3,rfl,hl3,ha3⟩ hW hW.size),ah (λW hW=>Sl.up ⟨A4,c4,rfl,hl4,ha4⟩ hW hW.size),ah (λW hW=>Sl.up ⟨A5,c5,rfl,hl5,ha5⟩ hW hW.size),ah (λW hW=>Sl.up ⟨A6,c6,rfl,Jb,ha6⟩ hW hW.size),hl0,hl1,hl2,hl3,hl4,hl5,Jb⟩
theorem o9{w:World}{v:Value}{p:dG}(hp:kK w w v p):∃Ab cb As cs,v=.agg (xu p Ab cb As cs)/\Hid (∀W,Below w w W->kK W W.heap.size (.agg (xu p Ab cb As cs)) p)/\Hid (∀W,Below w w W->Sl Qv W W.heap.size (.slice Ab p.dP.length cb) p.dP)/\Hid (∀W,Below w w W->Sl iW W W.heap.size (.slice As p.aW.length cs) p.aW)/\p.dP.length<=140737488355232/\p.aW.length<=140737488355232:=by
 have hP:=hp;obtain⟨_,_,rfl,⟨Ab,cb,rfl,hlb,hb⟩,⟨As,cs,rfl,hls,hs⟩⟩:=hp;exact⟨Ab,cb,As,cs,rfl,ah (λW hW=>hP.up hW hW.size),ah (λW hW=>Sl.up ⟨Ab,cb,rfl,hlb,hb⟩ hW hW.size),ah (λW hW=>Sl.up ⟨As,cs,rfl,hls,hs⟩ hW hW.size),hlb,hls⟩
theorem uT(w:World)(p:dG)(s:aI)(Ab:Option Addr)(cb:Nat)(As:Option Addr)(cs:Nat)(A0:Option Addr)(c0:Nat)(A1:Option Addr)(c1:Nat)(A2:Option Addr)(c2:Nat)(A3:Option Addr)(c3:Nat)(A4:Option Addr)(c4:Nat)(A5:Option Addr)(c5:Nat)(A6:Option Addr)(c6:Nat):
  ∃W0:World,(w.alloc (kD p Ab cb As cs)).alloc (kV s A0 c0 A1 c1 A2 c2 A3 c3 A4 c4 A5 c5 A6 c6)=W0/\Below w w W0/\w.heap.size+1<W0.heap.size/\w.heap.size<W0.heap.size/\Hid (W0.heap.size=w.heap.size+1+1)/\
   Hid (∀W,Below W0 W0 W->(W.cell? w=some (.slice Ab p.dP.length cb)/\W.cell? ⟨w.heap.size,1,none⟩=some (.slice As p.aW.length cs))/\W.cell? ⟨w.heap.size+1,0,none⟩=some (.slice A0 s.on.length c0)/\W.cell? ⟨w.heap.size+1,1,none⟩=some (.slice A1 s.ak.length c1)/\W.cell? ⟨w.heap.size+1,2,none⟩=some (.slice A2 s.aA.length c2)/\W.cell? ⟨w.heap.size+1,3,none⟩=some (.slice A3 s.aF.length c3)/\W.cell? ⟨w.heap.size+1,4,none⟩=some (.slice A4 s.jf.length c4)/\W.cell? ⟨w.heap.size+1,5,none⟩=some (.slice A5 s.O.length c5)/\W.cell? ⟨w.heap.size+1,6,none⟩=some (.slice A6 s.dB.length c6)/\w.heap.size+1<W.heap.size/\w.heap.size<W.heap.size):=by
 refine⟨_,rfl,((aj _ _).alloc (ay _) _).alloc (by simp) _,by simp,by simp;omega,ah (by simp),ah λW hW=>?_⟩
 have h1:iJ ((w.alloc (kD p Ab cb As cs)).alloc (kV s A0 c0 A1 c1 A2 c2 A3 c3 A4 c4 A5 c5 A6 c6)) w 25 [.slice Ab p.dP.length cb,.slice As p.aW.length cs]:=(iJ.new _ _ _).alloc _;have h2:iJ ((w.alloc (kD p Ab cb As cs)).alloc (kV s A0 c0 A1 c1 A2 c2 A3 c3 A4 c4 A5 c5 A6 c6)) (w.heap.size+1) 40 [.slice A0 s.on.length c0,.slice A1 s.ak.length c1,.slice A2 s.aA.length c2,.slice A3 s.aF.length c3,.slice A4 s.jf.length c4,.slice A5 s.O.length c5,.slice A6 s.dB.length c6]:=by
  have:=iJ.new (w.alloc (kD p Ab cb As cs)) 40 (Uy s A0 c0 A1 c1 A2 c2 A3 c3 A4 c4 A5 c5 A6 c6);rw[dK]at this
  exact this
 have k1:=h1.below hW (by simp;omega)
 have k2:=h2.below hW (by simp)
 exact⟨⟨k1.cell rfl,k1.cell rfl⟩,k2.cell rfl,k2.cell rfl,k2.cell rfl,k2.cell rfl,k2.cell rfl,k2.cell rfl,k2.cell rfl,k2.lt,k1.lt⟩
theorem KD(w:World)(s:aI)(A0:Option Addr)(c0:Nat)(A1:Option Addr)(c1:Nat)(A2:Option Addr)(c2:Nat)(A3:Option Addr)(c3:Nat)(A4:Option Addr)(c4:Nat)(A5:Option Addr)(c5:Nat)(A6:Option Addr)(c6:Nat):
  ∃W0:World,w.alloc (kV s A0 c0 A1 c1 A2 c2 A3 c3 A4 c4 A5 c5 A6 c6)=W0/\Below w w W0/\w.heap.size<W0.heap.size/\w.heap.size<W0.heap.size/\Hid (W0.heap.size=w.heap.size+1)/\
   Hid (∀W,Below W0 W0 W->(True/\True)/\W.cell? w=some (.slice A0 s.on.length c0)/\W.cell? ⟨w.heap.size,1,none⟩=some (.slice A1 s.ak.length c1)/\W.cell? ⟨w.heap.size,2,none⟩=some (.slice A2 s.aA.length c2)/\W.cell? ⟨w.heap.size,3,none⟩=some (.slice A3 s.aF.length c3)/\W.cell? ⟨w.heap.size,4,none⟩=some (.slice A4 s.jf.length c4)/\W.cell? ⟨w.heap.size,5,none⟩=some (.slice A5 s.O.length c5)/\W.cell? ⟨w.heap.size,6,none⟩=some (.slice A6 s.dB.length c6)/\w.heap.size<W.heap.size/\w.heap.size<W.heap.size):=by
 refine⟨_,rfl,(aj _ _).alloc (ay _) _,by simp,by simp,ah (by simp),ah λW hW=>?_⟩
 have h2:iJ (w.alloc (kV s A0 c0 A1 c1 A2 c2 A3 c3 A4 c4 A5 c5 A6 c6)) w 40 [.slice A0 s.on.length c0,.slice A1 s.ak.length c1,.slice A2 s.aA.length c2,.slice A3 s.aF.length c3,.slice A4 s.jf.length c4,.slice A5 s.O.length c5,.slice A6 s.dB.length c6]:=iJ.new _ _ _;have k2:=h2.below hW (by simp)
 exact⟨⟨trivial,trivial⟩,k2.cell rfl,k2.cell rfl,k2.cell rfl,k2.cell rfl,k2.cell rfl,k2.cell rfl,k2.cell rfl,k2.lt,k2.lt⟩
theorem jmB(w:World)(p:dG)(Ab:Option Addr)(cb:Nat)(As:Option Addr)(cs:Nat):
  ∃W0:World,w.alloc (kD p Ab cb As cs)=W0/\Below w w W0/\w.heap.size<W0.heap.size/\Hid (∀W,Below W0 W0 W->W.cell? w=some (.slice Ab p.dP.length cb)/\W.cell? ⟨w.heap.size,1,none⟩=some (.slice As p.aW.length cs)/\w.heap.size<W.heap.size):=by
 refine⟨_,rfl,(aj _ _).alloc (ay _) _,by simp,ah λW hW=>?_⟩
 have h1:iJ (w.alloc (kD p Ab cb As cs)) w 25 [.slice Ab p.dP.length cb,.slice As p.aW.length cs]:=iJ.new _ _ _;have k1:=h1.below hW (by simp)
 exact⟨k1.cell rfl,k1.cell rfl,k1.lt⟩
theorem yS(w:World)(p:dG)(s:aI)(Ab:Option Addr)(cb:Nat)(As:Option Addr)(cs:Nat)(A0:Option Addr)(c0:Nat)(A1:Option Addr)(c1:Nat)(A2:Option Addr)(c2:Nat)(A3:Option Addr)(c3:Nat)(A4:Option Addr)(c4:Nat)(A5:Option Addr)(c5:Nat)(A6:Option Addr)(c6:Nat):
  ∃W0:World,((w.alloc (kD p Ab cb As cs)).alloc (kV s A0 c0 A1 c1 A2 c2 A3 c3 A4 c4 A5 c5 A6 c6)).alloc (.cells TL 40)=W0/\Below w w W0/\w.heap.size+1<W0.heap.size/\w.heap.size<W0.heap.size/\Hid (W0.heap.size=w.heap.size+1+1+1)/\
   Hid (∀W,Below W0 W0 W->(W.cell? w=some (.slice Ab p.dP.length cb)/\W.cell? ⟨w.heap.size,1,none⟩=some (.slice As p.aW.length cs))/\W.cell? ⟨w.heap.size+1,0,none⟩=some (.slice A0 s.on.length c0)/\W.cell? ⟨w.heap.size+1,1,none⟩=some (.slice A1 s.ak.length c1)/\W.cell? ⟨w.heap.size+1,2,none⟩=some (.slice A2 s.aA.length c2)/\W.cell? ⟨w.heap.size+1,3,none⟩=some (.slice A3 s.aF.length c3)/\W.cell? ⟨w.heap.size+1,4,none⟩=some (.slice A4 s.jf.length c4)/\W.cell? ⟨w.heap.size+1,5,none⟩=some (.slice A5 s.O.length c5)/\W.cell? ⟨w.heap.size+1,6,none⟩=some (.slice A6 s.dB.length c6)/\w.heap.size+1<W.heap.size/\w.heap.size<W.heap.size)/\
   Hid (∀W,Below W0 W0 W->iJ W (w.heap.size+1+1) 40 [nS,nS,nS,nS,nS,nS,nS]):=by
 obtain⟨W1,e1,b1,s1,s2,s3,hK⟩:=uT w p s Ab cb As cs A0 c0 A1 c1 A2 c2 A3 c3 A4 c4 A5 c5 A6 c6;rw[e1];have e3:W1.heap.size=w.heap.size+1+1:=s3;have ha:Below W1 W1 (W1.alloc (.cells TL 40)):=(aj _ _).alloc (ay _) _;have h1:iJ (W1.alloc (.cells TL 40)) W1 40 [nS,nS,nS,nS,nS,nS,nS]:=iJ.new _ _ _;rw[e3]at h1
 refine⟨_,rfl,fD b1 ha,by simp;omega,by simp;omega,ah (by simp[e3]),ah λW hW=>?_,ah λW hW=>h1.below hW (by simp;omega)⟩
 exact vV hK W (fD ha hW)
end
end Wh
namespace Wh
open Go Go.RowKit
section
section
variable {P:Program}
theorem Hq(w:World)(g o:Nat)(e ty:TypeId)(cur cs:List Value)(hg:iJ w g e cur)(hfit:o+cs.length<=cur.length)(hi:(P.info? ty).map (·.size)=some cs.length)(h1:∀v∈cs,v.oneCell'=true):
  (storeVar ty ⟨g,o,none⟩ (.agg cs.toArray)).run P w=.ok () (w.setRow g (spl cur o cs).toArray):=by
 have:=wP P g o e cs 0 cur.toArray w hg (by simpa using hfit) h1
 cases hq:P.info? ty with
 |none=>simp[hq]at hi
 |some i=>
  have hs:i.size=cs.length:=by simpa[hq]using hi
  simp only[fZ]at this
  simp[storeVar,Go.sizeOf,typeInfo,hq,Value.cells,hs,this,spl]
theorem jkm{α:Type}(enc:α->List Value)(k:Nat)(hk:∀x,(enc x).length=k){l:List α}{i:Nat}(hi:i<l.length)(y:α){cur:List Value}(hc:l.length*k<=cur.length)(ht:cur.take (l.length*k)=l.flatMap enc):
  (spl cur (i*k) (enc y)).take (l.length*k)=(l.set i y).flatMap enc:=by
 have h1:(i+1)*k<=l.length*k:=kE _ (by omega)
 have h2:i*k+k=(i+1)*k:=by rw[jS];omega
 have e1:l.set i y=l.take i++[y]++l.drop (i+1):=by
  rw[vY,aB hi,gZ];rfl
 rw[e1,gQ,gQ,List.flatMap_singleton,<- Ic enc k hk,<- JH enc k hk,<- ht];have e2:(cur.take (i*k)++enc y).length=(i+1)*k:=by rw[aX,bC,hk,jK (by omega),h2]
 unfold spl;rw[hk,h2,List.take_append,kJ (by rw[e2];exact h1),e2,oG,jK (by omega),List.drop_take]
theorem Own.put{α:Type}{enc:α->List Value}{size:Nat}{e:TypeId}{w:World}{aT g n c:Nat}{l:List α}(h:Own enc size e w aT (.slice (some g) n c) l)(hk:∀x,(enc x).length=size){i:Nat}(hi:i<l.length)(y:α)
  {ty:TypeId} (hty:(P.info? ty).map (·.size)=some size) (h1:∀v∈enc y,v.oneCell'=true):
  ∃w',(storeVar ty ⟨g,i*size,none⟩ (.agg (enc y).toArray)).run P w=.ok () w'/\Own enc size e w' aT (.slice (some g) n c) (l.set i y)/\w.grownBy w' (some g):=by
 obtain⟨g',cap,cur,e1,hb,hg,h2,h3,h4,h5⟩:=h.row (by omega)
 injection e1 with e1 e2 e3
 injection e1 with e1
 injection e1 with e1
 subst e1 e2 e3;have hle:l.length*size<=cur.length:=by rw[h4];exact kE _ h2
 have hfit:i*size+(enc y).length<=cur.length:=by
  rw[hk];have:(i+1)*size<=l.length*size:=kE _ (by omega)
  rw[jS]at this
  omega
 refine⟨_,Hq w g (i*size) e ty cur (enc y) hg hfit (by rw[hk];exact hty) h1,?_,wL w g _⟩
 have:=Own.OA (l:=l.set i y) hk hb (hg.row (spl cur (i*size) (enc y))) (by rw[jL];exact h2) h3 (by rw[Aa hfit];exact h4) (by rw[jL];exact jkm enc size hk hi y hle h5)
 rwa [jL]at this
theorem QO{α:Type}{enc:α->List Value}{size:Nat}{e:TypeId}{w:World}{aT g n c:Nat}{l:List α}{ops:Array Oper}{rest:List Oper}{o:Oper}{a:Go.Act}{Q:Exit->Go.Act->World->Prop}(hgd:o.guard=none)(x z:Operand)(ty:TypeId)(ho:o.op=.store ty x z)(hn:o.dst=none)
  (h:Own enc size e w aT (.slice (some g) n c) l) (hk:∀x,(enc x).length=size) {i:Nat} (hi:i<l.length) (y:α) (hty:(P.info? ty).map (·.size)=some size) (h1:∀v∈enc y,v.oneCell'=true)
  (hx:a.eval x=.pointer (some ⟨g,i*size,none⟩)) (hy:a.eval z=.agg (enc y).toArray)
  (hK:∀w',Own enc size e w' aT (.slice (some g) n c) (l.set i y)->w.grownBy w' (some g)->wpList P ops Q rest a w'):wpList P ops Q (o::rest) a w:=
 jo hgd λK hK'=>by
  obtain⟨w',hr,h2,h3⟩:=h.put hk hi y hty h1;unfold Oper.wp execOp;simp only[ho,hx,hy,Instr.storeAt,Instr.sureAddr,iP,jc,gY,hr];have hk:=hK' (a.put o.dst undef) w' (by rw[hn];exact hK _ h2 h3)
  exact hk
theorem Own.cut{α:Type}{enc:α->List Value}{size:Nat}{e:TypeId}{w:World}{aT g n c:Nat}{l:List α}(h:Own enc size e w aT (.slice (some g) n c) l)(hk:∀x,(enc x).length=size){i:Nat}(hi:i<l.length)
  {t:TypeId} {z:Value} (ht:P.underlying t=some (.slice e)) (hv:∀w,(zeroValue e).run P w=.ok z w) (hz:z.cells.size=size) (h1:∀v∈z.cells,v.oneCell'=true):
  ∃w',(∀ty c',(Builtin.clear_ #[t] ty #[.slice (some ⟨g,i*size,none⟩) (n - i) c']).run P w=.ok (.tuple #[]) w')/\Own enc size e w' aT (.slice (some g) i c) (l.take i)/\w.grownBy w' (some g):=by
 obtain⟨g',cap,cur,e1,hb,hg,h2,h3,h4,h5⟩:=h.row (by omega)
 injection e1 with e1 e2 e3
 injection e1 with e1
 injection e1 with e1
 subst e1 e2 e3;have hle:l.length*size<=cur.length:=by rw[h4];exact kE _ h2
 have hsp:i*size+(l.length - i)*size=l.length*size:=by rw[<- jS];congr 1;omega
 have hzl:(Builtin.zeroCells z.cells (l.length - i)).toList.length=(l.length - i)*size:=by rw[oP,yx,hz]
 refine⟨_,λty c'=>LG (P:=P) w t e ty z ht hv h1 g (i*size) (l.length - i) c' cur hg (by omega) (by rw[hz];omega),?_,wL w g _⟩
 have lZ:(l.take i).length=i:=by rw[bC];omega
 have:=Own.OA (l:=l.take i) hk hb (hg.row (spl cur (i*size) (Builtin.zeroCells z.cells (l.length - i)).toList)) (by rw[lZ];omega) h3 (by rw[Aa (by rw[hzl];omega)];exact h4) (by
  rw[lZ,jar (by omega),<- Ic enc size hk,<- h5,oG,jK (by omega)])
 rwa [lZ]at this
end
end
section
variable {P:Program} (w:World) {ops:Array Oper} {rest:List Oper} {o:Oper} {a:Act} {Q:Exit→Act→World→Prop}
theorem iJ.newObj(w:World)(o:Obj):(w.alloc o).heap[w.heap.size]?=some o:=by
 show(w.heap.push o)[w.heap.size]?=some o;simp
theorem jhH(x y:Obj):({w.alloc x with heap:=(w.alloc x).heap.setIfInBounds w y}:World)=w.alloc y:=by
 have e:(w.alloc x).heap.setIfInBounds w y=(w.alloc y).heap:=by
  apply pI;intro k;rw[su]
  by_cases hk:w.heap.size=k
  ·subst hk;rw[aB rfl,aB (by simp)]
   exact(iJ.newObj w y).symm
  ·rw[au hk];by_cases hl:k<w.heap.size
   ·rw[oO w x k hl,oO w y k hl]
   ·rw[iF (by simp;omega),iF (by simp;omega)]
 rw[e];rfl
theorem KN(hgd:o.guard=none)(m k v:Operand)(t kt et:TypeId)(ho:o.op=.insert t m k v)(hm:P.underlying t=some (.map kt et))(hk:P.underlying kt=some .string)(es:Array MapEntry)(clock:Nat)(s:ByteArray)
  (hme:a.eval m=.map (some w.heap.size)) (hke:a.eval k=.string s) (hf:Instr.findNow .string (.string s) es.toList 0=some none)
  (h:wpList P ops Q rest (a.put o.dst undef) (w.alloc (.map (es.push {key:=.string s,val:=a.eval v,born:=clock}) (clock+1)))):wpList P ops Q (o::rest) a (w.alloc (.map es clock)):=by
 refine jo hgd λK hK=>?_
 have hb:(w.alloc (.map es clock)).heap[w.heap.size]?=some (.map es clock):=iJ.newObj _ _;have hc:∀w:World,(Instr.checkKey false 10000 kt (.string s)).run P w=.ok () w:=λw=>Dk (k:=.string s) hk (by simp[MapKept.IsKey]) false 9999
 have hrun:(Instr.mapUpdate t (.map (some w.heap.size)) (.string s) (a.eval v)).run P (w.alloc (.map es clock))=.ok () (w.alloc (.map (es.push {key:=.string s,val:=a.eval v,born:=clock}) (clock+1))):=by
  have h0:∀W:World,W.heap[w.heap.size]?=some (.map es clock)->(Instr.mapUpdate t (.map (some w.heap.size)) (.string s) (a.eval v)).run P W=.ok () {W with heap:=W.heap.setIfInBounds w (.map (es.push {key:=.string s,val:=a.eval v,born:=clock}) (clock+1))}:=λW hb=>by
   simp[Instr.mapUpdate,mJ hm,wX hb,hc,yC hk hf,MapKept.run_setObj_map _ hb,Result.andThen]
  rw[h0 _ hb,jhH]
 unfold Oper.wp;simp[execOp,ho,hme,hke,hrun,Result.andThen]
 exact hK _ _ h
theorem KL(hgd:o.guard=none)(m k:Operand)(t kt et:TypeId)(ho:o.op=.lookup t m k true)(hm:P.underlying t=some (.map kt et))(hk:P.underlying kt=some .string)(z:Value)(hz:(zeroValue et).run P w=.ok z w)(b:Nat)(es:Array MapEntry)(clock:Nat)(s:ByteArray)
  (hb:w.heap[b]?=some (.map es clock)) (hme:a.eval m=.map (some b)) (hke:a.eval k=.string s) (x:Option (Nat×Value)) (hf:Instr.findNow .string (.string s) es.toList 0=some x)
  (h:∀w',w=w'->wpList P ops Q rest (a.put o.dst (.tuple #[(x.map (·.2)).getD z,.bool x.isSome])) w'):wpList P ops Q (o::rest) a w:=by
 refine jo hgd λK hK=>?_
 have hc:∀e:Bool,(Instr.checkKey e 10000 kt (.string s)).run P w=.ok () w:=λe=>Dk (k:=.string s) hk (by simp[MapKept.IsKey]) e 9999
 have hrun:(Instr.lookup t (.map (some b)) (.string s) true).run P w=.ok (.tuple #[(x.map (·.2)).getD z,.bool x.isSome]) w:=by
  cases x with
  |none=>simp[Instr.lookup,mJ hm,wX hb,hc,yC hk hf,hz,Result.andThen]
  |some y=>obtain⟨i,v⟩:=y;simp[Instr.lookup,mJ hm,wX hb,hc,yC hk hf,Result.andThen]
 unfold Oper.wp;simp[execOp,ho,hme,hke,hrun,Result.andThen]
 exact hK _ _ (h w rfl)
end
section
section
variable {P:Program} {l:List Oper} {n:Nat} {R:Nat→Nat→(Nat→Value)→World→Prop} {Q:Exit→Act→World→Prop} {a:Act} {w:World}
def phN(b1 b2:Nat)(gU:Array Bool):Nat:=(if gU.getD b1 false=true then 1 else 0)+(if gU.getD b2 false=true then 1 else 0)
def Ji(b1 b2 i ph:Nat):Nat:=if i=b1 then 1 else if i=b2 then 2 else ph
def bkN(b1 b2 k:Nat):Nat:=if k=0 then b1 else b2
def jdS(P:Program)(l:List Oper)(n:Nat)(R:Nat->Nat->(Nat->Value)->World->Prop)(Q:Exit->Act->World->Prop)(a:Act)(T:Nat->World->Prop)(Eb:Nat->World->World->Prop)(b1 b2 i:Nat)(o:Oper):Prop:=
 ∀ph f w',T ph w'->(i=b1->ph=0)->(i=b2->ph=1)->G6 n (R ph) f w' o->
  o.wp P (kP a (l.take n) f) w' (λa' w''=>∃v,a'=(kP a (l.take n) f).put o.dst v/\R (Ji b1 b2 i ph) i (xB f o.dst v) w''/\((i≠b1/\i≠b2/\Below w' w' w'')\/(i=b1/\Eb 0 w' w'')\/(i=b2/\Eb 1 w' w''))) Q
theorem jfW{T:Nat->World->Prop}{Eb:Nat->World->World->Prop}{b1 b2:Nat}(Gu:b1≠b2)(h1n:b1<n)(h2n:b2<n)(hw:∀o,l[b2]?=some o->∃e∈o.after,Region.binds .any e=true/\e.on=b1)(hT1:∀ph w1 w2,T ph w1->Below w1.heap.size w1 w2->T ph w2)(hT2:∀k w1 w2,k<=1->T k w1->Eb k w1 w2->T (k+1) w2)(hle:n<=l.length)(jcN:∀gU,HeadInv .any l.toArray n gU->∀i,i<n->gU.getD i true=false->∀t,n<=t->t ∉ Region.ready .any l.toArray gU)(hseq:Region.seqB .any l.toArray (l.length - n) n (XE l.length n)=true)
  (hg:∀i o,i<n->l[i]?=some o->o.guard=none) (hnd:((l.take n).filterMap (·.dst)).Nodup) (Ko:∀i o,i<n->l[i]?=some o->∀e∈o.after,Region.binds .any e=true->e.on<i)
  (hst:∀ph i g w1 w2,R ph i g w1->Below w1.heap.size w1 w2->R ph i g w2) (hst2:∀k i g w1 w2,k<=1->i≠bkN b1 b2 k->R k i g w1->Eb k w1 w2->R (k+1) i g w2) (I7:∀ph i g g' w,(∀j o d,TJ l j i->l[j]?=some o->o.dst=some d->g d=g' d)->R ph i g w->R ph i g' w) (Nz:∀i o,i<n->l[i]?=some o->jdS P l n R Q a T Eb b1 b2 i o)
  (hend:∀f w',T 2 w'->(∀i,i<n->R 2 i f w')->wpList P l.toArray Q (l.drop n) (kP a (l.take n) f) w'):
  ∀(k:Nat) (gU:Array Bool) (f:Nat->Value) (w':World),HeadInv .any l.toArray n gU->unl gU n=k->T (phN b1 b2 gU) w'->(∀i,i<n->gU.getD i false=true->R (phN b1 b2 gU) i f w')->
   wpAny P .any l.toArray Q (k+(l.length - n)) gU (kP a (l.take n) f) w'
 |0,gU,f,w',inv,hk,hb,hR=>by
  have hsz:gU.size=l.length:=by rw[inv.size];simp
  have he:gU=XE l.length n:=by
   apply pI;intro i;unfold XE;rw[CJ]
   simp only[Dt];by_cases hi:i<n
   ·rw[aB hi];have h1:=Oq hk hi;have h2:i<gU.size:=by omega
    simp[hi,h2,Array.getD]at h1 ⊢
    exact h1
   ·rw[au hi];by_cases hl:i<l.length
    ·have h1:=inv.tail i (by omega) (by simpa using hl)
     have h2:i<gU.size:=by omega
     have h3:i - n<l.length - n:=by omega
     simp[h2,h3,Array.getD]at h1 ⊢
     exact h1
    ·rw[iF (by omega),iF (by simp;omega)]
  have hd:l.length - n=(l.drop n).length:=by simp
  have h3:phN b1 b2 gU=2:=by
   have key:∀b,b<n->gU.getD b false=true:=λb hb=>by
    have h1:=Oq hk hb;have h2:b<gU.size:=by omega
    simp[h2,Array.getD]at h1 ⊢
    exact h1
   unfold phN;rw[aB (key _ h1n),aB (key _ h2n)]
  rw[h3]at hR hb
  rw[fM,hd];refine wpAny_of_seq (l.drop n) n gU _ w' (λj=>by simp) (by rw[he,<- hd];exact hseq) (hend f w' hb λi hin=>hR i hin ?_)
  have h1:=Oq hk hin;have h2:i<gU.size:=by omega
  simp[h2,Array.getD]at h1 ⊢
  exact h1
 |k+1,gU,f,w',inv,hk,hb,hR=>by
  have hsz:gU.size=l.length:=by rw[inv.size];simp
  obtain⟨i0,hi0,hu0⟩:=jfK (show 0<unl gU n by omega)
  have hne:∀i,i<n->gU.getD i true=false->Region.ready .any l.toArray gU≠[]:=by
   intro i;induction i using Nat.strongRecOn with
   |_ i ih=>
    intro hin hu;have hil:i<l.length:=by omega
    by_cases kQ:∀e∈(l[i]).after,Region.binds .any e=true->gU.getD e.on false=true
    ·have:i∈Region.ready .any l.toArray gU:=yu.2 ⟨hu,l[i],by simp[hil],kQ⟩
     intro h0;rw[h0]at this
     cases this
    ·simp only[Dq]at kQ
     obtain⟨e,he,hbd,hno⟩:=kQ;have hlt:=Ko i l[i] hin (by simp[hil]) e he hbd
     exact ih e.on hlt (by omega) (getD_in (by omega) (by simpa using hno))
  rw[show k+1+(l.length - n)=(k+(l.length - n))+1 by omega]
  refine⟨λh0=>absurd h0 (hne i0 hi0 hu0),λi hi=>?_⟩
  have hin:i<n:=by
   rcases rH i n with h|h
   ·exact h
   ·exact absurd hi (jcN gU inv i0 hi0 hu0 i h)
  obtain⟨hu,o,ho,kQ⟩:=yu.1 hi;have ho':l[i]?=some o:=by simpa using ho
  have hgd:=hg i o hin ho';have hoff:i=b1->gU.getD b1 false=false/\gU.getD b2 false=false:=λe=>by
   have h1:gU.getD b1 false=false:=by rw[<- e];exact getD_both hu
   refine⟨h1,?_⟩
   cases h2:gU.getD b2 false
   ·rfl
   ·have hl2:b2<l.length:=by omega
    obtain⟨e',he',hbd,hon⟩:=hw l[b2] (by simp[hl2])
    have:=inv.closed b2 l[b2] (by simp[hl2]) h2 e' he' hbd
    rw[hon,h1]at this
    cases this
  have jng:i=b2->gU.getD b1 false=true/\gU.getD b2 false=false:=λe=>by
   have h2:gU.getD b2 false=false:=by rw[<- e];exact getD_both hu
   obtain⟨e',he',hbd,hon⟩:=hw o (by rw[<- e];exact ho')
   have:=kQ e' he' hbd;rw[hon]at this
   exact⟨this,h2⟩
  have jjk:i=b1->phN b1 b2 gU=0:=λe=>by
   obtain⟨h1,h2⟩:=hoff e;unfold phN;rw[h1,h2];rfl
  have jjj:i=b2->phN b1 b2 gU=1:=λe=>by
   obtain⟨h1,h2⟩:=jng e;unfold phN;rw[h1,h2];rfl
  have h1:=Nz i o hin ho' (phN b1 b2 gU) f w' hb jjk jjj λe he hbd hen=>hR e.on hen (kQ e he hbd)
  unfold wpOp;simp only[ho];rw[aB (by simp[Region.wanted,hgd])]
  refine .inl (xW ?_ h1)
  rintro a' w'' ⟨v,rfl,hv,hbw⟩;have hcount:unl (gU.setIfInBounds i true) n=k:=by
   have:=jfJ hu n;rw[aB hin]at this
   omega
  have hb2:T (Ji b1 b2 i (phN b1 b2 gU)) w'':=by
   rcases hbw with⟨hne,hne2,hbw⟩|⟨he,hbw⟩|⟨he,hbw⟩
   ·unfold Ji;rw[au hne,au hne2];exact hT1 _ _ _ hb hbw
   ·rw[jjk he]at hb
    unfold Ji;rw[aB he];exact hT2 0 _ _ (by omega) hb hbw
   ·rw[jjj he]at hb
    unfold Ji;rw[au (λe=>Gu (e.symm.trans he)),aB he]
    exact hT2 1 _ _ (by omega) hb hbw
  have hph:phN b1 b2 (gU.setIfInBounds i true)=Ji b1 b2 i (phN b1 b2 gU):=by
   unfold phN Ji;by_cases e1:i=b1
   ·obtain⟨q1,q2⟩:=hoff e1;subst e1;rw[Ip false (Qb hu),qR false Gu,q2];simp
   ·by_cases e2:i=b2
    ·obtain⟨q1,q2⟩:=jng e2;subst e2;rw[Ip false (Qb hu),qR false e1,q1];simp[e1]
    ·rw[qR false e1,qR false e2,au e1,au e2]
  have jbd:∀j k,TJ l j k->k<n->gU.getD k false=true->j<n/\gU.getD j false=true:=by
   intro j k h;induction h with
   |self=>exact λh1 h2=>⟨h1,h2⟩
   |eU ho he hbd hon _ ih=>
    intro h1 h2;subst hon;have:=Ko _ _ h1 ho _ he hbd;exact ih (by omega) (inv.closed _ _ (by simpa using ho) h2 _ he hbd)
  have dw:(kP a (l.take n) f).put o.dst v=kP a (l.take n) (xB f o.dst v):=by
   cases hdst:o.dst with
   |none=>rfl
   |some d0=>
    unfold kP Act.put xB;simp only;rw[ZV (Qg ho' hin hdst)]
  rw[dw];refine jfW Gu h1n h2n hw hT1 hT2 hle jcN hseq hg hnd Ko hst hst2 I7 Nz hend k _ (xB f o.dst v) w'' (inv.set hi hin) hcount (by rw[hph];exact hb2) λj hjn hl=>?_
  rw[hph];by_cases hij:i=j
  ·subst hij;exact hv
  ·rw[qR false hij]at hl
   refine I7 _ j f _ _ (λj' oj d haj hoj hd=>?_) (by
    rcases hbw with⟨hne,hne2,hbw⟩|⟨he,hbw⟩|⟨he,hbw⟩
    ·unfold Ji;rw[au hne,au hne2];exact hst _ _ _ _ _ (hR j hjn hl) hbw
    ·have h0:=hR j hjn hl;rw[jjk he]at h0
     unfold Ji;rw[aB he];exact hst2 0 _ _ _ _ (by omega) (λe=>hij (by rw[e];exact he)) h0 hbw
    ·have h0:=hR j hjn hl;rw[jjj he]at h0
     unfold Ji;rw[au (λe=>Gu (e.symm.trans he)),aB he]
     exact hst2 1 _ _ _ _ (by omega) (λe=>hij (by rw[e];exact he)) h0 hbw)
   obtain⟨joG,jjy⟩:=jbd _ _ haj hjn hl;cases hdst:o.dst with
   |none=>rfl
   |some d0=>
    have hne:i≠j':=λe=>by
     subst e;rw[getD_both hu]at jjy
     cases jjy
    have hdd:=jkw hnd ho' hin hdst hoj joG hd hne;unfold xB upd;simp only;rw[au (λe=>hdd e.symm)]
theorem Yv(n:Nat)(T:Nat->World->Prop)(Eb:Nat->World->World->Prop)(b1 b2:Nat)(Gu:b1≠b2)(h1n:b1<n)(h2n:b2<n)(hw:∀o,l[b2]?=some o->∃e∈o.after,Region.binds .any e=true/\e.on=b1)(R:Nat->Nat->(Nat->Value)->World->Prop){id:Nat}(hm:P.follows .mixedOrders=true)(hB:Oz l n=true)(hT1:∀ph w1 w2,T ph w1->Below w1.heap.size w1 w2->T ph w2)(hT2:∀k w1 w2,k<=1->T k w1->Eb k w1 w2->T (k+1) w2)(hT0:T 0 w.drew)
  (hst:∀ph i g w1 w2,R ph i g w1->Below w1.heap.size w1 w2->R ph i g w2) (hst2:∀k i g w1 w2,k<=1->i≠bkN b1 b2 k->R k i g w1->Eb k w1 w2->R (k+1) i g w2)
  (I7:∀ph i g g' w,(∀j o d,TJ l j i->l[j]?=some o->o.dst=some d->g d=g' d)->R ph i g w->R ph i g' w) (Nz:∀i o,i<n->l[i]?=some o->jdS P l n R Q a T Eb b1 b2 i o)
  (hend:∀f w',T 2 w'->(∀i,i<n->R 2 i f w')->wpList P l.toArray Q (l.drop n) (kP a (l.take n) f) w'):(Code.region id l.toArray true).wp P Q a w:=by
 simp only[Oz,dF,jY,dI,bJ]at hB
 obtain⟨⟨⟨⟨hww,hseq⟩,hg⟩,hnd⟩,Ko⟩:=hB;have hle:n<=l.length:=by rcases hww with h|h<;>omega
 have hat:∀i o,i<n->l[i]?=some o->o∈l.take n:=λi o hin hi=>by
  rw[xQ];exact⟨i,by rw[jG];simp[hin,hi]⟩
 refine DF hm ?_
 have H:=jfW (P:=P) (Q:=Q) (a:=a) Gu h1n h2n hw hT1 hT2 hle ?_ hseq (λi o hin hi=>by simpa using hg o (hat i o hin hi)) hnd ?_ hst hst2 I7 Nz hend n (Array.replicate l.toArray.size false) (λd=>a.tmps.getD d undef) w.drew
  ⟨by simp,λj oj _ hl=>(by rw[getD_replicate_false]at hl;cases hl),λt _ ht=>getD_in (by simpa using ht) (getD_replicate_false _ _)⟩ ?_ (by have e:phN b1 b2 (Array.replicate l.toArray.size false)=0:=(by unfold phN;rw[getD_replicate_false,getD_replicate_false];rfl);rw[e];exact hT0) (λi _ hl=>by rw[getD_replicate_false]at hl;cases hl)
 ·have e:kP a (l.take n) (λd=>a.tmps.getD d undef)=a:=by
   unfold kP;rw[XY]
  rw[e]at H
  have hs:n+(l.length - n)=l.toArray.size:=by simp;omega
  rw[hs]at H
  exact H
 ·intro gU inv i hin hu t ht hr;rcases hww with h|⟨⟨h1,h2⟩,h3⟩
  ·obtain⟨_,o,ho,_⟩:=yu.1 hr;have:=(bI.1 ho).1
   simp at this
   omega
  ·exact tail_waits h2 h3 (by simpa using h1) inv (n - i) i rfl hin hu t ht hr
 ·intro i o hin hi e he hbd;have:=Ko i (jq.2 hin);rw[hi]at this
  simp only[jr,ku,nM,jY,qp,dI]at this
  rcases this e he with h|h
  ·rw[h]at hbd;cases hbd
  ·exact h
 ·have key:∀m,m<=l.length->unl (Array.replicate l.toArray.size false) m=m:=by
   intro m;induction m with
   |zero=>intro _;rfl
   |succ m ih=>
    intro hm;have:=ih (by omega)
    unfold unl at this ⊢
    have hml:m<l.length:=by omega
    rw[nU,vP,this];simp[hml]
  exact key n hle
theorem jdS.of{T:Nat->World->Prop}{Eb:Nat->World->World->Prop}{b1 b2:Nat}{i:Nat}{o:Oper}(hi:i<n)(hB:Oz l n=true)(hsz:((l.take n).filterMap (·.dst)).all (λd=>decide (d<a.tmps.size))=true)
  (I7:∀ph i g g' w,(∀j o d,TJ l j i->l[j]?=some o->o.dst=some d->g d=g' d)->R ph i g w->R ph i g' w)
  (h:∀ph (g:Nat->Value) w',T ph w'->(i=b1->ph=0)->(i=b2->ph=1)->(∀d,((l.take n).filterMap (·.dst)).contains d=false->g d=a.tmps.getD d undef)->G6 n (R ph) g w' o->iq P o (TN g) w' λv w''=>R (Ji b1 b2 i ph) i (xB g o.dst v) w''/\((i≠b1/\i≠b2/\Below w' w' w'')\/(i=b1/\Eb 0 w' w'')\/(i=b2/\Eb 1 w' w''))):
  jdS P l n R Q a T Eb b1 b2 i o:=by
 simp only[Oz,dF,jY,dI,bJ]at hB
 obtain⟨_,Ko⟩:=hB;have jfc:∀k oe,k<n->l[k]?=some oe->∀e∈oe.after,Region.binds .any e=true->e.on<k:=λk oe hk hoe e he hbd=>by
  have:=Ko k (jq.2 hk);rw[hoe]at this
  simp only[jr,ku,nM,jY,qp,dI]at this
  rcases this e he with h|h
  ·rw[h]at hbd;cases hbd
  ·exact h
 have jbd:∀j k,TJ l j k->k<n->j<n:=by
  intro j k h;induction h with
  |self=>exact id
  |eU ho he hbd hon _ ih=>
   intro h1;subst hon;have:=jfc _ _ h1 ho _ he hbd;exact ih (by omega)
 have hsz':∀d∈(l.take n).filterMap (·.dst),d<a.tmps.size:=λd hd=>by
  have:=bJ.1 hsz d hd;simpa using this
 intro ph f w' hb hj hj2 hd;have hg:∀d∈(l.take n).filterMap (·.dst),(kP a (l.take n) f).tmps.getD d undef=f d:=λd hd=>by
  have h1:=Ie ((l.take n).filterMap (·.dst)) f a.tmps d
  rw[aB (hsz' d hd),aB hd]at h1
  unfold kP;simp only[lg,h1,ku]
 have ho:∀d,((l.take n).filterMap (·.dst)).contains d=false->(kP a (l.take n) f).tmps.getD d undef=a.tmps.getD d undef:=λd hd=>by
  have h1:=Ie ((l.take n).filterMap (·.dst)) f a.tmps d
  have h2:d ∉ (l.take n).filterMap (·.dst):=by simpa using hd
  rw[au h2]at h1
  unfold kP;simp only[lg,h1];by_cases hl:d<a.tmps.size
  ·rw[aB hl]
  ·rw[au hl,iF (xC hl)]
 have key:=h ph (λd=>(kP a (l.take n) f).tmps.getD d undef) w' hb hj hj2 ho (λe he hbd hen=>I7 _ e.on f _ _ (λj oj d haj hoj hdj=>(hg d (Qg hoj (jbd _ _ haj hen) hdj)).symm) (hd e he hbd hen))
 rw[<- jdr]at key
 refine xW ?_ key.wp
 rintro a' w'' ⟨v,rfl,hr,hbw⟩;refine⟨v,rfl,I7 _ i _ _ _ (λj oj d haj hoj hdj=>?_) hr,hbw⟩
 have hjn:=jbd _ _ haj hi;have hmem:=Qg hoj hjn hdj;cases hdst:o.dst with
 |none=>exact hg d hmem
 |some d0=>
  unfold xB upd;simp only;split
  ·rfl
  ·exact hg d hmem
def atP(Rs:List (Nat->uq))(ph:Nat)(i:Nat):uq:=Rs.getD i (λ_ _ _=>True) ph
def TI(P:Program)(l:List Oper)(n:Nat)(Rs:List (Nat->uq))(a:Act)(T:Nat->World->Prop)(Eb:Nat->World->World->Prop)(b1 b2 i:Nat)(o:Oper)(p:Nat->uq):Prop:=
 (∀ph g w1 w2,p ph g w1->Below w1.heap.size w1 w2->p ph g w2)/\(∀k,k<=1->i≠bkN b1 b2 k->∀g w1 w2,p k g w1->Eb k w1 w2->p (k+1) g w2)/\(∀ph g g' w,(∀j o d,TJ l j i->l[j]?=some o->o.dst=some d->g d=g' d)->p ph g w->p ph g' w)/\
 ∀ph g w',T ph w'->(i=b1->ph=0)->(i=b2->ph=1)->(∀d,((l.take n).filterMap (·.dst)).contains d=false->g d=a.tmps.getD d undef)->G6 n (atP Rs ph) g w' o->
  iq P o (TN g) w' λv w''=>p (Ji b1 b2 i ph) (xB g o.dst v) w''/\((i≠b1/\i≠b2/\Below w' w' w'')\/(i=b1/\Eb 0 w' w'')\/(i=b2/\Eb 1 w' w''))
def xw(P:Program)(l:List Oper)(n:Nat)(Rs:List (Nat->uq))(a:Act)(T:Nat->World->Prop)(Eb:Nat->World->World->Prop)(b1 b2:Nat):Nat->List Oper->List (Nat->uq)->Prop
 |_,[],_=>True
 |_,_::_,[]=>False
 |i,o::r,p::ps=>TI P l n Rs a T Eb b1 b2 i o p/\xw P l n Rs a T Eb b1 b2 (i+1) r ps
section
variable {Rs:List (Nat→uq)} {T:Nat→World→Prop} {Eb:Nat→World→World→Prop} {b1 b2:Nat}
theorem xw.at:∀ {r:List Oper} {ps:List (Nat->uq)} {k:Nat},xw P l n Rs a T Eb b1 b2 k r ps->∀ {j:Nat} {o:Oper},r[j]?=some o->TI P l n Rs a T Eb b1 b2 (k+j) o (ps.getD j (λ_ _ _=>True))
 |[],_,_,_,_,_,h=>by simp at h
 |_::_,[],_,h,_,_,_=>h.elim
 |x::r,p::ps,k,h,0,o,hj=>by
  simp at hj
  subst hj;exact h.1
 |x::r,p::ps,k,h,j+1,o,hj=>by
  have:=xw.at h.2 (j:=j) (o:=o) (by simpa using hj)
  rw[show k+1+j=k+(j+1)by omega]at this
  simpa using this
theorem xw.nil{i:Nat}{ps:List (Nat->uq)}:xw P l n Rs a T Eb b1 b2 i [] ps:=by cases ps<;>trivial
theorem xw.cons{i:Nat}{o:Oper}{r:List Oper}{p:Nat->uq}{ps:List (Nat->uq)}(h:TI P l n Rs a T Eb b1 b2 i o p)(h':xw P l n Rs a T Eb b1 b2 (i+1) r ps):xw P l n Rs a T Eb b1 b2 i (o::r) (p::ps):=⟨h,h'⟩
end
theorem JJ(n:Nat)(T:Nat->World->Prop)(Eb:Nat->World->World->Prop)(b1 b2:Nat)(Gu:b1≠b2)(h1n:b1<n)(h2n:b2<n)(hw:∀o,l[b2]?=some o->∃e∈o.after,Region.binds .any e=true/\e.on=b1)(Rs:List (Nat->uq)){id:Nat}(hm:P.follows .mixedOrders=true)(hB:Oz l n=true)(hn:Rs.length=n)(hsz:((l.take n).filterMap (·.dst)).all (λd=>decide (d<a.tmps.size))=true)
  (hT1:∀ph w1 w2,T ph w1->Below w1.heap.size w1 w2->T ph w2) (hT2:∀k w1 w2,k<=1->T k w1->Eb k w1 w2->T (k+1) w2) (hT0:T 0 w.drew)
  (hops:xw P l n Rs a T Eb b1 b2 0 (l.take n) Rs) (hend:∀f w',T 2 w'->Jh (Rs.map λp=>p 2) f w'->wpList P l.toArray Q (l.drop n) (kP a (l.take n) f) w'):(Code.region id l.toArray true).wp P Q a w:=by
 have hle:n<=l.length:=by
  have:=hB;simp only[Oz,dF,jY,dI]at this
  rcases this.1.1.1.1 with h|h<;>omega
 have hat:∀i,i<n->∃o,l[i]?=some o/\TI P l n Rs a T Eb b1 b2 i o (λph=>atP Rs ph i):=λi hi=>by
  have hil:i<l.length:=by omega
  refine⟨l[i],by simp[hil],?_⟩
  have:=hops.at (j:=i) (o:=l[i]) (by rw[jG];simp[hi,hil])
  rwa [fM]at this
 have Xu:∀ph i g w,¬i<n->atP Rs ph i g w:=λph i g w hi=>by
  unfold atP;rw[fK,qg (by omega)]
  trivial
 have I7:∀ph i g g' w,(∀j o d,TJ l j i->l[j]?=some o->o.dst=some d->g d=g' d)->atP Rs ph i g w->atP Rs ph i g' w:=λph i g g' w1 he h=>by
  by_cases hi:i<n
  ·obtain⟨o,_,_,_,h2,_⟩:=hat i hi;exact h2 ph g g' w1 he h
  ·exact Xu ph i g' w1 hi
 refine Yv n T Eb b1 b2 Gu h1n h2n hw (atP Rs) hm hB hT1 hT2 hT0 (λph i g w1 w2 h hb=>?_) (λk i g w1 w2 hk hne h hb=>?_) I7 (λi o hi ho=>?_) (λf w' hb hR=>hend f w' hb (Jh.of λi hi=>?_))
 ·by_cases hi:i<n
  ·obtain⟨o,_,h1,_⟩:=hat i hi;exact h1 ph g w1 w2 h hb
  ·exact Xu ph i g w2 hi
 ·by_cases hi:i<n
  ·obtain⟨o,_,_,h1,_⟩:=hat i hi;exact h1 k hk hne g w1 w2 h hb
  ·exact Xu (k+1) i g w2 hi
 ·obtain⟨o',ho',_,_,_,h3⟩:=hat i hi;rw[ho]at ho'
  injection ho' with ho'
  subst ho';exact jdS.of hi hB hsz I7 h3
 ·rw[gX,hn]at hi
  have h:=hR i hi;have hl:i<Rs.length:=by omega
  simp only[atP,atR,fK,lG,bQ hl,jr,ku]at h ⊢
  exact h
section
variable {Rs:List (Nat→uq)} {T:Nat→World→Prop} {Eb:Nat→World→World→Prop} {b1 b2:Nat}
theorem TI.val{i d:Nat}{o:Oper}{c:Value}(hi:l[i]?=some o)(ho:o.dst=some d)(hne:i≠b1)(hne2:i≠b2)
  (h:∀ph g w',T ph w'->(∀d,((l.take n).filterMap (·.dst)).contains d=false->g d=a.tmps.getD d undef)->G6 n (atP Rs ph) g w' o->(execOp (TN g) o).run P w'=.ok (.value c) w'):
  TI P l n Rs a T Eb b1 b2 i o (λ_ g _=>g d=c):=by
 refine⟨λ_ _ _ _ h _=>h,λ_ _ _ _ _ _ h _=>h,λ_ g g' _ he h=>(he i o d (TJ.self i) hi ho).symm.trans h,λph g w' hb _ _ hout hd=>?_⟩
 unfold iq;rw[h ph g w' hb hout hd];refine⟨?_,.inl ⟨hne,hne2,aj _ _⟩⟩
 rw[ho];unfold xB upd;simp
theorem xw.v{i d:Nat}{o:Oper}{c:Value}{r:List Oper}{ps:List (Nat->uq)}
  (h:∀ph g w',T ph w'->(∀d,((l.take n).filterMap (·.dst)).contains d=false->g d=a.tmps.getD d undef)->G6 n (atP Rs ph) g w' o->(execOp (TN g) o).run P w'=.ok (.value c) w')
  (h':xw P l n Rs a T Eb b1 b2 (i+1) r ps) (hi:l[i]?=some o:=by rfl) (ho:o.dst=some d:=by rfl) (hne:i≠b1:=by decide) (hne2:i≠b2:=by decide):xw P l n Rs a T Eb b1 b2 i (o::r) ((λ_ g _=>g d=c)::ps):=⟨TI.val hi ho hne hne2 h,h'⟩
theorem TI.one{i d:Nat}{o:Oper}{p:Nat->Value->World->Prop}(hi:l[i]?=some o)(ho:o.dst=some d)(hne:i≠b1)(hne2:i≠b2)(hst:∀ph v w1 w2,p ph v w1->Below w1.heap.size w1 w2->p ph v w2)(hst2:∀k v w1 w2,k<=1->p k v w1->Eb k w1 w2->p (k+1) v w2)
  (h:∀ph g w',T ph w'->(∀d,((l.take n).filterMap (·.dst)).contains d=false->g d=a.tmps.getD d undef)->G6 n (atP Rs ph) g w' o->iq P o (TN g) w' λv w''=>p ph v w''/\Below w'.heap.size w' w''):
  TI P l n Rs a T Eb b1 b2 i o (λph g w=>p ph (g d) w):=by
 refine⟨λph g w1 w2 h hb=>hst _ _ _ _ h hb,λk hk _ g w1 w2 h hb=>hst2 k _ _ _ hk h hb,λph g g' w1 he h=>?_,λph g w' hb _ _ hout hd=>?_⟩
 ·show p ph (g' d) w1;rw[<- he i o d (TJ.self i) hi ho];exact h
 ·have h1:=h ph g w' hb hout hd;unfold Ji;rw[ho,au hne,au hne2];have e:∀v,xB g (some d) v d=v:=λv=>by unfold xB upd;simp
  simp only[e];exact iq.mono (λv w'' h=>⟨h.1,.inl ⟨hne,hne2,h.2⟩⟩) h1
theorem TI.first{d:Nat}{o:Oper}{p:Nat->Value->World->Prop}(hi:l[b1]?=some o)(ho:o.dst=some d)(hst:∀ph v w1 w2,p ph v w1->Below w1.heap.size w1 w2->p ph v w2)(hst2:∀v w1 w2,p 1 v w1->Eb 1 w1 w2->p 2 v w2)
  (h:∀g w',T 0 w'->(∀d,((l.take n).filterMap (·.dst)).contains d=false->g d=a.tmps.getD d undef)->G6 n (atP Rs 0) g w' o->iq P o (TN g) w' λv w''=>p 1 v w''/\Eb 0 w' w''):
  TI P l n Rs a T Eb b1 b2 b1 o (λph g w=>p ph (g d) w):=by
 refine⟨λph g w1 w2 h hb=>hst _ _ _ _ h hb,λk hk hne g w1 w2 h hb=>?_,λph g g' w1 he h=>?_,λph g w' hb hph _ hout hd=>?_⟩
 ·rcases(show k=0\/k=1 by omega)with rfl|rfl
  ·exact absurd rfl hne
  ·exact hst2 _ _ _ h hb
 ·show p ph (g' d) w1;rw[<- he b1 o d (TJ.self b1) hi ho];exact h
 ·obtain rfl:=hph rfl;have h1:=h g w' hb hout hd;have e1:Ji b1 b2 b1 0=1:=aB rfl;have e:∀v,xB g (some d) v d=v:=λv=>by unfold xB upd;simp
  rw[ho,e1];refine iq.mono (λv w'' h=>⟨?_,.inr (.inl ⟨rfl,h.2⟩)⟩) h1
  show p 1 (xB g (some d) v d) w'';rw[e];exact h.1
theorem TI.second{o:Oper}{p:(Nat->Value)->World->Prop}(Gu:b1≠b2)(ho:o.dst=none)(hst:∀g w1 w2,p g w1->Below w1.heap.size w1 w2->p g w2)
  (I7:∀g g' w,(∀j o d,TJ l j b2->l[j]?=some o->o.dst=some d->g d=g' d)->p g w->p g' w)
  (h:∀g w',T 1 w'->(∀d,((l.take n).filterMap (·.dst)).contains d=false->g d=a.tmps.getD d undef)->G6 n (atP Rs 1) g w' o->iq P o (TN g) w' λ_ w''=>p g w''/\Eb 1 w' w''):
  TI P l n Rs a T Eb b1 b2 b2 o (λph g w=>ph=2/\p g w):=by
 refine⟨λph g w1 w2 h hb=>⟨h.1,hst _ _ _ h.2 hb⟩,λk hk hne g w1 w2 h hb=>?_,λph g g' w1 he h=>⟨h.1,I7 g g' w1 he h.2⟩,λph g w' hb _ hph hout hd=>?_⟩
 ·exact absurd h.1 (by omega)
 ·obtain rfl:=hph rfl;have h1:=h g w' hb hout hd;have e1:Ji b1 b2 b2 1=2:=by unfold Ji;rw[au (λe=>Gu e.symm),aB rfl]
  rw[ho,e1];exact iq.mono (λv w'' h=>⟨⟨rfl,h.1⟩,.inr (.inr ⟨rfl,h.2⟩)⟩) h1
end
/-! As above, what aA throughout being the same all along. -/
def TG(P:Program)(l:List Oper)(n:Nat)(Rs:List (Nat->uq))(a:Act)(T:World->Prop)(Eb:Nat->World->World->Prop)(b1 b2 i:Nat)(o:Oper)(p:Nat->uq):Prop:=TI P l n Rs a (λ_=>T) Eb b1 b2 i o p
def BL(P:Program)(l:List Oper)(n:Nat)(Rs:List (Nat->uq))(a:Act)(T:World->Prop)(Eb:Nat->World->World->Prop)(b1 b2:Nat)(i:Nat)(r:List Oper)(ps:List (Nat->uq)):Prop:=xw P l n Rs a (λ_=>T) Eb b1 b2 i r ps
section
variable {Rs:List (Nat→uq)} {T:World→Prop} {Eb:Nat→World→World→Prop} {b1 b2:Nat}
theorem BL.nil{i:Nat}{ps:List (Nat->uq)}:BL P l n Rs a T Eb b1 b2 i [] ps:=xw.nil
theorem BL.cons{i:Nat}{o:Oper}{r:List Oper}{p:Nat->uq}{ps:List (Nat->uq)}(h:TG P l n Rs a T Eb b1 b2 i o p)(h':BL P l n Rs a T Eb b1 b2 (i+1) r ps):BL P l n Rs a T Eb b1 b2 i (o::r) (p::ps):=xw.cons h h'
theorem TG.val{i d:Nat}{o:Oper}{c:Value}(hi:l[i]?=some o)(ho:o.dst=some d)(hne:i≠b1)(hne2:i≠b2)
  (h:∀ph g w',T w'->(∀d,((l.take n).filterMap (·.dst)).contains d=false->g d=a.tmps.getD d undef)->G6 n (atP Rs ph) g w' o->(execOp (TN g) o).run P w'=.ok (.value c) w'):
  TG P l n Rs a T Eb b1 b2 i o (λ_ g _=>g d=c):=TI.val hi ho hne hne2 h
theorem BL.v{i d:Nat}{o:Oper}{c:Value}{r:List Oper}{ps:List (Nat->uq)}
  (h:∀ph g w',T w'->(∀d,((l.take n).filterMap (·.dst)).contains d=false->g d=a.tmps.getD d undef)->G6 n (atP Rs ph) g w' o->(execOp (TN g) o).run P w'=.ok (.value c) w')
  (h':BL P l n Rs a T Eb b1 b2 (i+1) r ps) (hi:l[i]?=some o:=by rfl) (ho:o.dst=some d:=by rfl) (hne:i≠b1:=by decide) (hne2:i≠b2:=by decide):BL P l n Rs a T Eb b1 b2 i (o::r) ((λ_ g _=>g d=c)::ps):=xw.v h h' hi ho hne hne2
theorem TG.one{i d:Nat}{o:Oper}{p:Nat->Value->World->Prop}(hi:l[i]?=some o)(ho:o.dst=some d)(hne:i≠b1)(hne2:i≠b2)(hst:∀ph v w1 w2,p ph v w1->Below w1.heap.size w1 w2->p ph v w2)(hst2:∀k v w1 w2,k<=1->p k v w1->Eb k w1 w2->p (k+1) v w2)
  (h:∀ph g w',T w'->(∀d,((l.take n).filterMap (·.dst)).contains d=false->g d=a.tmps.getD d undef)->G6 n (atP Rs ph) g w' o->iq P o (TN g) w' λv w''=>p ph v w''/\Below w'.heap.size w' w''):
  TG P l n Rs a T Eb b1 b2 i o (λph g w=>p ph (g d) w):=TI.one hi ho hne hne2 hst hst2 h
theorem TG.first{d:Nat}{o:Oper}{p:Nat->Value->World->Prop}(hi:l[b1]?=some o)(ho:o.dst=some d)(hst:∀ph v w1 w2,p ph v w1->Below w1.heap.size w1 w2->p ph v w2)(hst2:∀v w1 w2,p 1 v w1->Eb 1 w1 w2->p 2 v w2)
  (h:∀g w',T w'->(∀d,((l.take n).filterMap (·.dst)).contains d=false->g d=a.tmps.getD d undef)->G6 n (atP Rs 0) g w' o->iq P o (TN g) w' λv w''=>p 1 v w''/\Eb 0 w' w''):
  TG P l n Rs a T Eb b1 b2 b1 o (λph g w=>p ph (g d) w):=TI.first hi ho hst hst2 h
theorem TG.second{o:Oper}{p:(Nat->Value)->World->Prop}(Gu:b1≠b2)(ho:o.dst=none)(hst:∀g w1 w2,p g w1->Below w1.heap.size w1 w2->p g w2)
  (I7:∀g g' w,(∀j o d,TJ l j b2->l[j]?=some o->o.dst=some d->g d=g' d)->p g w->p g' w)
  (h:∀g w',T w'->(∀d,((l.take n).filterMap (·.dst)).contains d=false->g d=a.tmps.getD d undef)->G6 n (atP Rs 1) g w' o->iq P o (TN g) w' λ_ w''=>p g w''/\Eb 1 w' w''):
  TG P l n Rs a T Eb b1 b2 b2 o (λph g w=>ph=2/\p g w):=TI.second Gu ho hst I7 h
end
theorem VX(n:Nat)(T:World->Prop)(Eb:Nat->World->World->Prop)(b1 b2:Nat)(Gu:b1≠b2)(h1n:b1<n)(h2n:b2<n)(hw:∀o,l[b2]?=some o->∃e∈o.after,Region.binds .any e=true/\e.on=b1)(Rs:List (Nat->uq)){id:Nat}(hm:P.follows .mixedOrders=true)(hB:Oz l n=true)(hn:Rs.length=n)(hsz:((l.take n).filterMap (·.dst)).all (λd=>decide (d<a.tmps.size))=true)
  (hT1:∀w1 w2,T w1->Below w1.heap.size w1 w2->T w2) (hT2:∀k w1 w2,T w1->Eb k w1 w2->T w2) (hT0:T w.drew)
  (hops:BL P l n Rs a T Eb b1 b2 0 (l.take n) Rs) (hend:∀f w',T w'->Jh (Rs.map λp=>p 2) f w'->wpList P l.toArray Q (l.drop n) (kP a (l.take n) f) w'):(Code.region id l.toArray true).wp P Q a w:=
 JJ n (λ_=>T) Eb b1 b2 Gu h1n h2n hw Rs hm hB hn hsz (λ_ w1 w2 h hb=>hT1 w1 w2 h hb) (λk w1 w2 _ h he=>hT2 k w1 w2 h he) hT0 hops hend
end
end
end Wh
