/- Texts of the claim, joined. -/
import Derived.Test.YtniaecolikhmeaaGreatDoorQ30
set_option maxHeartbeats 20000000
set_option maxRecDepth 100000
set_option linter.all false
namespace Wh
open Go Go.RowKit Go.Shelf Go.Proofs Tryz
section
attribute [local go_sem] aV jF iY jI
attribute [local go_sem] Oper.semAt_some
section
variable {p:dG} {s:aI}
def Zj(p:dG)(s:aI)(pre:List (G7 p true)):aI:=(pre.map Subtype.val).foldl (λt b=>(List.range p.aW.length).foldl (tK p b) t) s
theorem jbU(pre:List (G7 p true))(x:G7 p true):Zj p s (pre++[x])=(List.range p.aW.length).foldl (tK p x.1) (Zj p s pre):=by
 unfold Zj;rw[gJ,lH];rfl
theorem jfO:Zj p s (qB p true p.dP.length)=Ph p s:=by
 unfold Zj;rw[Ri p true _ (ay _)];rfl
theorem jhY{k:Nat}(hk:k<=p.dP.length)(h:8<=(Zj p s (qB p true k)).aF.length):Ph p s=Zj p s (qB p true k):=by
 obtain⟨r,hr⟩:=Rj p true p.dP.length k hk;rw[<- jfO,hr];unfold Zj at h ⊢
 rw[gJ,lH];exact YX h p _
theorem jd2(h:aO p s=0)(pre:List (G7 p true)):xA p s (Zj p s pre):=
 EG (P:=xA p s) (λt b hb ht=>by
  obtain⟨x,_,rfl⟩:=kN.1 hb;exact RH ht x.2.1 x.2.2) (O9 h)
def gdX(p:dG)(b:Nat)(t:aI)(g:Nat):aI:=(List.range g).foldl (tK p b) t
theorem XP(b:Nat)(t:aI)(g:Nat):gdX p b t (g+1)=tK p b (gdX p b t g) g:=by
 unfold gdX;rw[nU,lH];rfl
theorem jdi{b:Nat}{t:aI}{g:Nat}(h:8<=(gdX p b t g).aF.length):∀n,g<=n->gdX p b t n=gdX p b t g
 |0,hn=>by
  obtain rfl:g=0:=by omega
  rfl
 |n+1,hn=>by
  by_cases he:g=n+1
  ·rw[he]
  ·rw[XP,jdi h n (by omega),QI h]
theorem XQ{t:aI}{b:Nat}(h:xA p s t)(hb:b<p.dP.length)(hf:(p.bin b).front=true):∀g,g<=p.aW.length->xA p s (gdX p b t g)
 |0,_=>h
 |g+1,hg=>by
  rw[XP];exact Pg (XQ h hb hf g (by omega)) hb (by omega) hf
def YD(p:dG)(b g:Nat)(t:aI)(pre:List (G7 p false)):aI:=(pre.map Subtype.val).foldl (λt f=>Jl p t b g f) t
theorem jh5(b g:Nat)(t:aI)(pre:List (G7 p false))(x:G7 p false):YD p b g t (pre++[x])=Jl p (YD p b g t pre) b g x.1:=by
 unfold YD;rw[gJ,lH];rfl
theorem jk3{b g:Nat}{t:aI}(h:cell t.on b g+iC t b g<(p.bin b).low):tK p b t g=YD p b g t (qB p false p.dP.length):=by
 unfold YD tK;rw[Ri p false _ (ay _),aB h];rfl
theorem jh6{b g k:Nat}{t:aI}(hk:k<=p.dP.length)(h:8<=(YD p b g t (qB p false k)).aF.length):YD p b g t (qB p false p.dP.length)=YD p b g t (qB p false k):=by
 obtain⟨r,hr⟩:=Rj p false p.dP.length k hk;rw[hr];unfold YD at h ⊢
 rw[gJ,lH];generalize (qB p false k).map Subtype.val=l at h ⊢
 generalize l.foldl (λt f=>Jl p t b g f) t=u at h ⊢
 clear hr;induction r with
 |nil=>rfl
 |cons x r ih=>
  rw[dJ,dA,RI h];exact ih
theorem jd4{t:aI}{b g:Nat}(h:xA p s t)(hb:b<p.dP.length)(hf:(p.bin b).front=true)(hg:g<p.aW.length)(pre:List (G7 p false)):xA p s (YD p b g t pre):=
 EG (P:=xA p s) (λt f hm ht=>by
  obtain⟨x,_,rfl⟩:=kN.1 hm;exact RG ht hb hg x.2.1 hf x.2.2) h
end
def E5(aT bx:Nat)(V:Value->SV)(L:List (Nat×Obj))(W0:World)(T:aI)(W:World):Prop:=
 (∃u,Bx W aT bx 40 [] (V u) T)/\pV L W/\Below W0 W0 W
theorem ZK{β:Type}{aT bx:Nat}{V:Value->SV}{L:List (Nat×Obj)}{W0:World}(T:β->aI){B:Nat}(hL:∀x∈L,x.1<B)(hB:W0.heap.size<=B):OwnFrom B (λs W=>E5 aT bx V L W0 (T s) W):=
 λs X Y row hs hg hr=>by
  obtain⟨⟨u,h1⟩,h2,h3⟩:=hs;exact⟨⟨u,h1.wS hg λr e=>(hr r e).2⟩,pV.from_ hL s X Y row h2 hg hr,h3.grown hg h3.size (λk hk=>by have:=(hr k hk).1;omega)⟩
theorem pV.below{L:List (Nat×Obj)}{W W':World}(h:pV L W)(hb:Below W W W'):pV L W':=λx hx=>(hb.block x.1 (h.lt x hx)).trans (h x hx)
theorem KeepsFrom.weak{B B':Nat}{W W':World}(h:KeepsFrom B W W')(hB:B<=B'):KeepsFrom B' W W':=⟨h.size,λk o hk ho hc=>h.same k o (aU hB hk) ho hc⟩
structure Fb(L:List (Nat×Obj))(aT B7:Nat)(Wo W:World):Prop where
 held:pV L W
 b:Below aT Wo W
 k:KeepsFrom B7 Wo W
namespace Fb
variable {L:List (Nat×Obj)} {aT B7:Nat} {Wo W W':World}
theorem refl(h:pV L W):Fb L aT B7 W W:=⟨h,aj _ _,KeepsFrom.refl _ _⟩
theorem trans{L':List (Nat×Obj)}(h:Fb L aT B7 Wo W)(h':Fb L' aT B7 W W'):Fb L' aT B7 Wo W':=⟨h'.held,h.b.trans h'.b,h.k.trans h'.k⟩
theorem below(h:Fb L aT B7 Wo W)(hn:aT<=Wo.heap.size)(hb:Below W W W'):Fb L aT B7 Wo W':=⟨h.held.below hb,h.b.trans (hb.mono (aU hn h.k.size)),h.k.trans (Ef hb)⟩
theorem grown(h:Fb L aT B7 Wo W)(hn:aT<=Wo.heap.size){row:Option Nat}(hg:W.grownBy W' row)(hr:∀r,row=some r->aT<=r/\(∃cs t sp,W.heap[r]?=some (.cells cs t sp))/\∀x∈L,x.1≠r):Fb L aT B7 Wo W':=
 ⟨h.held.grown hg λx hx he=>(hr _ he.symm).2.2 x hx rfl,h.b.trans ((aj _ _).grown hg (aU hn h.k.size) λr e=>(hr r e).1),h.k.trans (IG hg λr e=>(hr r e).2.1)⟩
theorem step(h:Fb L aT B7 Wo W)(hn:aT<=Wo.heap.size){b:Nat}(hs:Step (·=b) W W')(hb:aT<=b)(hc:∃cs t sp,W.heap[b]?=some (.cells cs t sp))(hL:∀x∈L,x.1≠b):Fb L aT B7 Wo W':=by
 refine⟨λx hx=>hs.heap (h.held x hx) (hL x hx),h.b.trans (hs.below (λq hq=>by omega) (aU hn h.k.size)),h.k.trans ⟨hs.size,λk o _ hk ho=>hs.heap hk λhe=>?_⟩⟩
 subst he;obtain⟨cs,t,sp,hc⟩:=hc;rw[hc]at hk
 injection hk with hk
 subst hk;cases ho
theorem own{β:Type}{B:Nat}(hL:∀x∈L,x.1<B)(hn:aT<=Wo.heap.size)(hB:Wo.heap.size<=B):OwnFrom B (λ(_:β) W=>Fb L aT B7 Wo W):=λs X Y row hs hg hr=>
 ⟨pV.from_ hL s X Y row hs.held hg hr,ownFrom_below hn (aU hn hB) s X Y row hs.b hg hr,ownFrom_keepsFrom hB s X Y row hs.k hg hr⟩
end Fb
def jiV(aT bx:Nat)(V:Value->SV)(L:List (Nat×Obj))(B7:Nat)(Wo:World)(T:aI)(W:World):Prop:=
 (∃u,Bx W aT bx 40 [] (V u) T)/\Fb L aT B7 Wo W
theorem ZJ{β:Type}{aT bx B7:Nat}{V:Value->SV}{L:List (Nat×Obj)}{Wo:World}(T:β->aI){B:Nat}(hL:∀x∈L,x.1<B)(hn:aT<=Wo.heap.size)(hB:Wo.heap.size<=B):OwnFrom B (λs W=>jiV aT bx V L B7 Wo (T s) W):=
 λs X Y row hs hg hr=>by
  obtain⟨⟨u,h1⟩,h2⟩:=hs;exact⟨⟨u,h1.wS hg λr e=>(hr r e).2⟩,Fb.own hL hn hB s X Y row h2 hg hr⟩
theorem Yw{P:Program}(w:World){F:Fence}{n:Nat}{α:Type}{enc:α->List Value}{ops:Array Oper}{rest:List Oper}{o:Oper}{a:Act}{Q:Exit->Act->World->Prop}(hgd:o.guard=none)(s x:Operand)(t e:TypeId)
  (ho:o.op=.call {callee:=.builtin .append,args:=#[s,x],argTypes:=#[t,t]}) (aT:Nat) (z:Value) (size bytes:Nat) (ht:P.underlying t=some (.slice e)) (hi:Elem P e z size bytes)
  (hzs:z.cells.size=size) (hsz:0<size) (hby:bytes<=64) (v:Value) (l:List α) (y:α) (hs:a.eval s=v) (mQ:Own enc size e w aT v l)
  (ad:Addr) (c:Nat) (hx:a.eval x=.slice (some ad) 1 c) (hl:(enc y).length=size) (hnews:∀j u,(enc y)[j]?=some u->w.cell? (ad.add j)=some u) (h1:∀u∈enc y,u.oneCell'=true)
  (hn:l.length<=1000000) (wu:aT<=w.heap.size)
  (h:∀v' w',Own enc size e w' aT v' (l++[y])->w.grownBy w' v.ownBlock->Below aT w w'->wpListIn F n P ops Q rest (a.put o.dst v') w'):
  wpListIn F n P ops Q (o::rest) a w:=by
 obtain⟨i,hi,hz,MG,hbytes⟩:=hi;have hb:(l.length+1)*bytes<=140737488355328:=aU (vW (show l.length+1<=1000001 by omega) hby) (by decide)
 refine wpListIn_append_own w hgd s x t ho aT e i z size bytes ht hi hz MG hbytes hzs hsz v l.length _ hs mQ ad 1 c (enc y) hx (by rw[hl,Nat.one_mul]) hnews h1 (by unfold maxLen;omega) hb wu ?_
 intro v' w' h2 h3 _;refine h v' w' ?_ h3 ((aj _ _).grown h3 wu λk hk=>(qK mQ k hk).1)
 unfold Own;rw[aX,gQ];simpa using h2
end
section
attribute [local go_sem] aV jF iY jI
attribute [local go_sem] Oper.semAt_some
theorem jpt(w:World)(v vs:Value)(p:dG)(s:aI)(hp:kK w w v p)(hv:kG w w vs s):
  Calls prog 66 #[v,vs] w (nN (fill p s) w):=by
 obtain⟨Ab,cb,As,cs,rfl,hP',hBn,hSz,hlb,hls⟩:=o9 hp;obtain⟨A0,c0,A1,c1,A2,c2,A3,c3,A4,c4,A5,c5,A6,c6,rfl,hV,hN,hO,hH,hM,hI,hU,hX,hl0,hl1,hl2,hl3,hl4,hl5,Jb⟩:=lY hv;refine(iy (n:=9)).1 ?_
 refine callsIn_of_wp_marks func66 rfl trivial ?_ rfl
 simp only[ntmps66,iR,bP,dQ,Nat.reduceAdd,Nat.reduceSub,gW,iG,jh,iM,fJ,gG];refine qY.2 ?_
 go_wp2_with fail;obtain⟨W0,hW0,hb0,kX,um,hsE,hK,hR⟩:=yS w p s Ab cb As cs A0 c0 A1 c1 A2 c2 A3 c3 A4 c4 A5 c5 A6 c6;rw[hW0];clear hW0;go_step3
 obtain⟨⟨y0,y1⟩,x0,x1,x2,x3,x4,x5,x6,fB,fC⟩:=hK.O W0 (aj W0 W0);go_wp2_with fail;clear y0 y1 x0 x1 x2 x3 x4 x5 x6 fB fC;refine(Nh _ _ _ p s (hP'.O _ hb0) (hV.O _ hb0)).mono ?_
 rintro e W1 ⟨rfl,h1⟩;have hB1:=fD hb0 h1;obtain⟨⟨y0,y1⟩,x0,x1,x2,x3,x4,x5,x6,fB,fC⟩:=hK.O W1 (h1);by_cases hc:aO p s=0
 ·have hc':=ah hc;have hsn:=ah (gB.1 hc).1;have dw:=ah (jgo hc);rw[hc];clear hc;have hcnt:=hsn.O.counts;go_wp2_with fail;clear y0 y1 x0 x1 x2 x3 x4 x5 x6 fB fC;refine(jbV _ _ p s (hV.O _ hB1) hsn.O).mono ?_
  rintro e W5 ⟨_,rfl,⟨V5,rfl,DC⟩,h5⟩;obtain⟨Jw,con,_,_,_,_,RJ,_⟩:=DC.QZ (b:=0) (g:=0) (by rw[hsn.O.sO];omega) (by rw[hsn.O.rowLen (by omega)];omega)
  obtain⟨k0,k1,k2,k3,k4,k5,k6,k7,k8⟩:=V5;obtain rfl:k0=.slice (some Jw) s.on.length con:=RJ;have rU:=(DC).one;have zV:=Dj (W5);go_wp2_with (refine dU (.tmp 7) (.tmp 24) dV (⟨.slice (some Jw) s.on.length con,k1,k2,k3,k4,k5,k6,k7,k8⟩:SV) rfl zV rfl rU (λw6 nK Jv=>?_);refine bD ?_)
  unfold Hid;have vG:=xg Jv;have x9:=nK.lt;clear rU zV Jv;have hx6:=ah (Bx.of nK (DC.below vG));have h06:=h1.trans ((fD h5 vG).mono h1.size);have hle:w.heap.size<=W1.heap.size:=hB1.size;have hle0:W0.heap.size<=W1.heap.size:=h1.size;have Bl:W1.heap.size<=W5.heap.size:=h5.size;clear nK DC vG h5 x9 h1 hB1;generalize W1.heap.size=aT at hx6 hle hle0 Bl
  generalize W5.heap.size=bx at hx6 Bl ⊢
  have x9:bx<w6.heap.size:=hx6.O.lt;obtain⟨⟨y0,y1⟩,x0,x1,x2,x3,x4,x5,x6,fB,fC⟩:=hK.O w6 (h06);go_wp2_with fail;go_step3
  go_wp2_with fail;clear y0 y1 x0 x1 x2 x3 x4 x5 x6 fB fC;refine((iy (n:=8)).1 (VR Fence.wide 8 trivial rfl _ _ true _)).mono ?_
  rintro e W2 ⟨rfl,rfl⟩;have hbA:=iJ.new w6 25 (xu p Ab cb As cs);have hbB:pV [(w6.heap.size+1,Obj.cells #[.bool true] 4 (0,0))] ((w6.alloc (kD p Ab cb As cs)).alloc (.cells #[.bool true] 4)):=by
   intro x hx;simp at hx
   subst hx;exact oh (by simp)
  have hba:Below w6 w6 ((w6.alloc (kD p Ab cb As cs)).alloc (.cells #[.bool true] 4)):=((aj _ _).alloc (ay _) _).alloc (by simp) _
  have jba:=hbA.alloc (.cells #[.bool true] 4);have hszA:((w6.alloc (kD p Ab cb As cs)).alloc (.cells #[.bool true] 4)).heap.size=w6.heap.size+1+1:=by simp
  go_wp2_with fail;clear hbA;generalize (w6.alloc (kD p Ab cb As cs)).alloc (.cells #[.bool true] 4)=w7 at hbB hba jba hszA ⊢
  have hx7:=ah (hx6.O.below hba);have h07:=fD h06 hba;have jt6:w6.heap.size<=w7.heap.size:=hba.size;generalize w6.heap.size=z6 at hbB jba hszA jt6 x9 ⊢
  clear hba hx6 h06;have hB7:=fD hb0 h07;refine(qY (n:=9)).1 ?_
  refine jim (sb:=8) p true 9 (by omega) z6 (z6+1) aT Ab As cb cs (by omega) (by omega) (by omega) (by omega) rfl (jba.cell (j:=0) rfl) (jba.cell (j:=1) rfl) (Boxed.cell (show Boxed w7 (z6+1) 4 (.bool true)from hbB (z6+1,Obj.cells #[.bool true] 4 (0,0)) (by simp))) ?hA
   (λpre W=>E5 aT bx (λu=>⟨.slice (some Jw) s.on.length con,k1,k2,u,k4,k5,k6,k7,k8⟩) [(z6+1,Obj.cells #[.bool true] 4 (0,0))] W0 (Zj p s pre) W)
   (λc pre W=>c=Code.exit 0/\E5 aT bx (λu=>⟨.slice (some Jw) s.on.length con,k1,k2,u,k4,k5,k6,k7,k8⟩) [(z6+1,Obj.cells #[.bool true] 4 (0,0))] W0 (Zj p s pre) W/\8<=(Zj p s pre).aF.length)
   (ZK _ ?hL ?hW) ?hIx ⟨⟨k3,hx7.O⟩,hbB,h07⟩ ?hsz ?wV ?hbody ?Ei ?hstop
  case hA=>exact((hBn.O w (aj _ _)).at_).up hB7 hle
  case hL=>
   intro x hx;simp at hx
   subst hx;show z6+1<w7.heap.size;omega
  case hW=>exact h07.size
  case hIx=>
   intro c pre X Y row hs hg hr;exact⟨hs.1,ZK (λpre=>Zj p s pre) (B:=w7.heap.size) (by
    intro x hx;simp at hx
    subst hx;show z6+1<w7.heap.size;omega) h07.size pre X Y row hs.2.1 hg hr,hs.2.2⟩
  case hsz=>
   intro pre W hI;have:=hI.2.1.lt (z6+1,Obj.cells #[.bool true] 4 (0,0)) (by simp)
   simp only at this
   omega
  case wV=>
   intro l x W K hK;simp only[aQ,bG,bH]at hK ⊢
   gi_wp2
   exact hK
  case hbody=>
   intro l pre x B W hl hr hI hBo hBw;simp only[aQ,bG,bH];obtain⟨b,hb,hfr⟩:=x;obtain⟨⟨u,hx⟩,hH,h0⟩:=hI;obtain⟨⟨y0,y1⟩,x0,x1,x2,x3,x4,x5,x6,fB,fC⟩:=hK.O W (h0);have hcB:=hBo.cell;gi_wp2_with fail
   clear y0 y1 x0 x1 x2 x3 x4 x5 x6 fB fC;obtain⟨rl,hr⟩:=hr;have hz7:z6+2<=w7.heap.size:=by omega
   clear hszA;have hWs:w7.heap.size<=W.heap.size:=aU hl (iQ (bI.1 hr).1)
   gi_loopw [31] (λi wr=>∃(g:Nat) (u:Value),g<=p.aW.length/\i=.int .i64 g/\Bx wr aT bx 40 [] ⟨.slice (some ⟨Jw,0,none⟩) s.on.length con,k1,k2,u,k4,k5,k6,k7,k8⟩ (gdX p b (Zj p s pre) g)/\Fb [(z6+1,Obj.cells #[.bool true] 4 (0,0)),(B,Obj.cells #[.int .i64 b] 3 (0,0))] aT w7.heap.size W wr) (λi _=>p.aW.length - (RowKit.intOf i).toNat)
   case atStart=>
    refine⟨0,u,aN _,rfl,hx,Fb.refl ?_⟩
    intro y hy;simp at hy
    rcases hy with rfl|rfl
    ·exact hH _ (by simp)
    ·exact hBo
   case round=>
    have hFb:=ah (jd2 hc'.O pre);have hHo:=hH;clear hx hH hBo u hcB;have hbn:aT<=W.heap.size:=by omega
    obtain⟨g,u,hg,rfl,hx,hS⟩:=hrel;have hx':=ah hx;clear hx;have h0r:=h0.trans (hS.b.mono hle0);have hB0:=fD hb0 h0r;have hcB:wr.cell? B=some (.int .i64 b):=Boxed.cell (show Boxed wr B 3 (b)from hS.held (B,Obj.cells #[b] 3 (0,0)) (by simp))
    obtain⟨⟨y0,y1⟩,x0,x1,x2,x3,x4,x5,x6,fB,fC⟩:=hK.O wr (h0r);by_cases hg1:g<p.aW.length
    ·have hgi:(g:Int)<(p.aW.length:Int):=by omega
     obtain⟨os,ls,rs⟩:=(hSz.O wr hB0).at_.int hg1;have hFl:=ah (XQ hFb.O hb hfr g hg);have hTs:=ah hFl.O.right.sane;have hon:=ah hFl.O.on;have hnx:=ah (XP (p:=p) b (Zj p s pre) g);obtain⟨T,hT⟩:∃T,gdX p b (Zj p s pre) g=T:=⟨_,rfl⟩;have hT':=ah hT;rw[hT]at hx' hFl hTs hon hnx
     clear hT;obtain⟨c0,c1,c2,c3,c4,c5,c6⟩:=hx'.O.cells;simp only at c0 c1 c2 c3 c4 c5 c6
     have lbx:=hx'.O.lt;have lB:=hS.held.lt _ (aY _ (bW ..));simp only at lB
     gi_wp2_with fail
     have ha:Below wr wr ((wr.alloc (.cells #[g] 3)).alloc (.cells #[(aZ p.aW g)] 3)):=((aj _ _).alloc (ay _) _).alloc (by simp) _
     refine⟨trivial,CallsIn.inRound l (iy.2 ((jgn _ _ _ p T b g (hP'.O _ (fD hB0 ha)) ((hx'.O.own.view hTs.O).up ha ha.size) hTs.O hb hg1).mono ?_))⟩
     rintro e W3 ⟨rfl,h3⟩;clear y0 y1 x0 x1 x2 x3 x4 x5 x6 fB fC;clear c0 c1 c2 c3 c4 c5 c6 os ls rs hcB;have hH2:pV [(z6+1,Obj.cells #[.bool true] 4 (0,0)),(B,Obj.cells #[b] 3 (0,0)),(wr.heap.size,Obj.cells #[g] 3 (0,0)),(wr.heap.size+1,Obj.cells #[(aZ p.aW g)] 3 (0,0))] ((wr.alloc (.cells #[g] 3)).alloc (.cells #[(aZ p.aW g)] 3)):=by
      have hHa:=(hS.held.alloc (.cells #[g] 3)).alloc (.cells #[(aZ p.aW g)] 3);intro y hy;simp at hy
      rcases hy with rfl|rfl|rfl|rfl
      ·exact hHa _ (by simp)
      ·exact hHa _ (by simp)
      ·exact(qX (by simp)).trans (oh rfl)
      ·exact oh (by simp)
     have jpp:=fD ha h3;have hx3:=ah (hx'.O.below jpp);have hS2:=hS.below hbn jpp;have hS3:Fb [(z6+1,Obj.cells #[.bool true] 4 (0,0)),(B,Obj.cells #[b] 3 (0,0)),(wr.heap.size,Obj.cells #[g] 3 (0,0)),(wr.heap.size+1,Obj.cells #[(aZ p.aW g)] 3 (0,0))] aT w7 W W3:=⟨hH2.below h3,hS2.b,hS2.k⟩;have h03:=h0.trans (hS3.b.mono hle0);have hw3:wr.heap.size+2<=W3.heap.size:=by have:=h3.size;simp at this;omega
     clear ha h3 hH2 hS hS2 jpp hx' h0r hB0;generalize wr.heap.size=z9 at hS3 hw3 lbx lB ⊢
     by_cases hlk:cell T.on b g+iC T b g<(p.bin b).low
     ·rw[oD hlk];have hsX:=ah (jk3 hlk);have hB3:=fD hb0 h03;obtain⟨⟨y0,y1⟩,x0,x1,x2,x3,x4,x5,x6,fB,fC⟩:=hK.O W3 (h03);gi_wp2_with fail
      clear y0 y1 x0 x1 x2 x3 x4 x5 x6 fB fC;refine⟨trivial,CallsIn.inRound l (iy.2 ((iy (n:=8)).1 (VR Fence.wide 8 trivial rfl _ _ false _)|>.mono ?_))⟩
      rintro e W2 ⟨rfl,rfl⟩;have hbA:=iJ.new W3 25 (xu p Ab cb As cs);have hba:Below W3 W3 ((W3.alloc (kD p Ab cb As cs)).alloc (.cells #[.bool false] 4)):=((aj _ _).alloc (ay _) _).alloc (by simp) _
      have hH4:pV [(z6+1,Obj.cells #[.bool true] 4 (0,0)),(B,Obj.cells #[b] 3 (0,0)),(z9,Obj.cells #[g] 3 (0,0)),(z9+1,Obj.cells #[(aZ p.aW g)] 3 (0,0)),(W3.heap.size+1,Obj.cells #[.bool false] 4 (0,0))] ((W3.alloc (kD p Ab cb As cs)).alloc (.cells #[.bool false] 4)):=by
       have hHa:=(hS3.held.alloc (kD p Ab cb As cs)).alloc (.cells #[.bool false] 4);intro y hy;simp at hy
       rcases hy with rfl|rfl|rfl|rfl|rfl
       ·exact hHa _ (by simp)
       ·exact hHa _ (by simp)
       ·exact hHa _ (by simp)
       ·exact hHa _ (by simp)
       ·exact oh (by simp)
      have jba:=hbA.alloc (.cells #[.bool false] 4);have jrA:((W3.alloc (kD p Ab cb As cs)).alloc (.cells #[.bool false] 4)).heap.size>=W3.heap.size+1+1:=by simp
      gi_wp2_with fail
      have hx4:=ah (hx3.O.below hba);have h04:=fD h03 hba;have hS4:=(hS3.below hbn hba).b;have jj8:=(hS3.below hbn hba).k;have hsz3:z9+2<=W3.heap.size:=hw3;clear hbA hS3 hx3 h03 hw3;generalize (W3.alloc (kD p Ab cb As cs)).alloc (.cells #[.bool false] 4)=w4 at hH4 jba jrA hx4 h04 hS4 jj8 hba ⊢
      clear hba;generalize W3.heap.size=z3 at hH4 jba jrA hsz3 ⊢
      have hB4:=fD hb0 h04;obtain⟨LL,hLL⟩:∃LL:List (Nat×Obj),LL=[(z6+1,Obj.cells #[.bool true] 4 (0,0)),(B,Obj.cells #[b] 3 (0,0)),(z9,Obj.cells #[g] 3 (0,0)),(z9+1,Obj.cells #[(aZ p.aW g)] 3 (0,0)),(z3+1,Obj.cells #[.bool false] 4 (0,0))]:=⟨_,rfl⟩;rw[<- hLL]at hH4
      have OZ:=ah hLL;clear hLL;have jui:=jj8.same l _ hl hr rfl;have jst:W.heap.size<=w4.heap.size:=jj8.size;have jhk:∀x∈LL,x.1<w4.heap.size:=hH4.lt;refine jeb (q:=48) (sb:=13) p false 7 l (by omega) jui z3 (z3+1) aT Ab As cb cs (by omega) (by omega) (by omega) (by omega) rfl (jba.cell (j:=0) rfl) (jba.cell (j:=1) rfl) (Boxed.cell (show Boxed w4 (z3+1) 4 (.bool false)from hH4 (z3+1,Obj.cells #[.bool false] 4 (0,0)) (by rw[OZ.O];simp))) ?jA
       (λpre' W'=>jiV aT bx (λu=>(⟨.slice (some Jw) s.on.length con,k1,k2,u,k4,k5,k6,k7,k8⟩:SV)) LL w7 W (YD p b g T pre') W')
       (λc pre' W'=>c=Code.exit 0/\jiV aT bx (λu=>(⟨.slice (some Jw) s.on.length con,k1,k2,u,k4,k5,k6,k7,k8⟩:SV)) LL w7 W (YD p b g T pre') W'/\8<=(YD p b g T pre').aF.length)
       (ZJ _ jhk hbn jst) ?jIx ⟨⟨u,hx4.O⟩,hH4,hS4,jj8⟩ ?jlH ?jrm ?jrl ?jrj
      case jA=>exact((hBn.O w (aj _ _)).at_).up hB4 hle
      case jIx=>
       intro c pre' X Y row hs hg hr;exact⟨hs.1,ZJ (λpre'=>YD p b g T pre') (B:=w4.heap.size) jhk hbn jst pre' X Y row hs.2.1 hg hr,hs.2.2⟩
      case jlH=>
       intro l x W K hK;simp only[aQ,bG,bH]at hK ⊢
       gi_wp2
       exact hK
      case jrm=>
       intro l2 pre' x W' hI;simp only[aQ,bG,bH];clear hx4 hS4 jj8 hB4 h04;obtain⟨f,hf,Yq⟩:=x;obtain⟨⟨u2,hx⟩,hS⟩:=hI;have hnx2:=ah (jh5 b g T pre' ⟨f,hf,Yq⟩);have jfg:=ah (jd4 hFl.O hb hfr hg1 pre');have KH:=ah jfg.O.right.sane;have jlP:=ah jfg.O.on;have hx':=ah hx;clear hx;obtain⟨U,hU⟩:∃U,YD p b g T pre'=U:=⟨_,rfl⟩;rw[hU]at hx' jfg KH jlP hnx2
       have hU':=ah hU;clear hU;obtain⟨Am,cm,hum⟩:=hx'.O.own.aF.isSlice;obtain rfl:u2=.slice Am U.aF.length cm:=hum;obtain⟨c0,c1,c2,c3,c4,c5,c6⟩:=hx'.O.cells;simp only at c0 c1 c2 c3 c4 c5 c6
       have hm8:=KH.O.uf;have h0r:=h0.trans (hS.b.mono hle0);have hB0:=fD hb0 h0r;have g1:W'.cell? B=some (.int .i64 b):=Boxed.cell (show Boxed W' B 3 (b)from hS.held (B,Obj.cells #[b] 3 (0,0)) (by rw[OZ.O];simp))
       have g2:W'.cell? z9=some (.int .i64 g):=Boxed.cell (show Boxed W' z9 3 (g)from hS.held (z9,Obj.cells #[g] 3 (0,0)) (by rw[OZ.O];simp))
       obtain⟨⟨y0,y1⟩,x0,x1,x2,x3,x4,x5,x6,fB,fC⟩:=hK.O W' (h0r);by_cases h8:U.aF.length=8
       ·have h8i:((U.aF.length:Int)==8)=true:=by simp[h8]
        have he:=ah (show YD p b g T (pre'++[⟨f,hf,Yq⟩])=U by rw[hnx2.O];exact RI (by omega))
        gi_wp2_with fail
        exact⟨KeepsFrom.refl _ _,rfl,⟨⟨_,by rw[he.O];exact hx'.O⟩,hS⟩,by rw[he.O];omega⟩
       ·have h8i:((U.aF.length:Int)==8)=false:=kL.2 (by omega)
        gi_wp2_with fail
        refine⟨trivial,CallsIn.inRound l2 (iy.2 ((jgn _ _ _ p U b g (hP'.O _ hB0) (hx'.O.own.view KH.O) KH.O hb hg1).mono ?_))⟩
        rintro e W5 ⟨rfl,h5⟩;clear y0 y1 x0 x1 x2 x3 x4 x5 x6 fB fC;clear c0 c1 c2 c3 c4 c5 c6 g1 g2;have hWn:aT<=W'.heap.size:=aU hbn hS.k.size;have hT0:Fb LL aT w7 W' W':=Fb.refl hS.held;have hT5:=hT0.below hWn h5;have h05:=fD h0r h5;have hx5:=ah (hx'.O.below h5);clear h5 hT0 hx' hB0;have YV:=fD hb0 h05;obtain⟨c0,c1,c2,c3,c4,c5,c6⟩:=hx5.O.cells;simp only at c0 c1 c2 c3 c4 c5 c6
        have g1:W5.cell? B=some (.int .i64 b):=Boxed.cell (show Boxed W5 B 3 (b)from hT5.held (B,Obj.cells #[b] 3 (0,0)) (by rw[OZ.O];simp))
        have g2:W5.cell? z9=some (.int .i64 g):=Boxed.cell (show Boxed W5 z9 3 (g)from hT5.held (z9,Obj.cells #[g] 3 (0,0)) (by rw[OZ.O];simp))
        have g3:W5.cell? ⟨z9+1,0,none⟩=some (.int .i64 (aZ p.aW g)):=Boxed.cell (show Boxed W5 (z9+1) 3 ((aZ p.aW g))from hT5.held (z9+1,Obj.cells #[(aZ p.aW g)] 3 (0,0)) (by rw[OZ.O];simp))
        have jrc:=hx5.O.lt;have lB5:B<W5.heap.size:=hT5.held.lt (B,Obj.cells #[b] 3 (0,0)) (by rw[OZ.O];simp)
        have l95:z9<W5.heap.size:=hT5.held.lt (z9,Obj.cells #[g] 3 (0,0)) (by rw[OZ.O];simp)
        have jrf:z9+1<W5.heap.size:=hT5.held.lt (z9+1,Obj.cells #[(aZ p.aW g)] 3 (0,0)) (by rw[OZ.O];simp)
        obtain⟨⟨y0,y1⟩,x0,x1,x2,x3,x4,x5,x6,fB,fC⟩:=hK.O W5 (h05);have q1:=λo d os=>cZ (w:=W5) (b:=bx) jrc o d os
        have q2:=λo d os=>cZ (w:=W5) (b:=B) lB5 o d os
        have q3:=λo d os=>cZ (w:=W5) (b:=z9) l95 o d os
        have q4:=λo d os=>cZ (w:=W5) (b:=z9+1) jrf o d os
        have q5:=λo d os=>cZ (w:=W5) (b:=w.heap.size) fC o d os
        have hV2:=ah (λd os=>(hx5.O.own.view KH.O).up (kH W5 d os) (kH W5 d os).size)
        have hP2:=ah (λd os=>hP'.O _ (YV.trans ((kH W5 d os).mono YV.size)))
        have v1:=KH.O.cell hb hg1;have v2:=yh KH.O b g;have v3:0<=(p.bin b).high/\(p.bin b).high<=200:=(JC hsn.O.plan hb).2.2;have v4:=Ac hsn.O.plan hg1;have hz:(aZ p.aW g==0)=false:=kL.2 (by omega)
        have hbb:0<=(b:Int)/\(b:Int)<p.dP.length:=by omega
        have hgg:0<=(g:Int)/\(g:Int)<p.aW.length:=by omega
        have joR:0<=(f:Int)/\(f:Int)<p.dP.length:=by omega
        gi_wp2_with fail
        refine uZ (by kernel_rfl) (by kernel_rfl) (by kernel_rfl) ?_
        repeat(go_big_quiet_step (first|(go_at_call 106;refine fV (jmJ _ _ p U f g (hV2.O _ _) KH.O joR hgg))|(go_at_call 92;refine fV (jif _ _ _ p U b (hP2.O _ _) (hV2.O _ _) KH.O hbb))))
        refine wpQuiet_nil ?_
        intro W6 hw6;have hb6:=dN hw6;clear hw6;have jnj:(p.bin b).high - (cell U.on b g+iC U b g)=(p.bin b).high - cell U.on b g - iC U b g:=by omega
        rw[ZU KH.O hb,jnj,jdp];clear jnj;have hT6:=hT5.below hWn hb6;have h06:=fD h05 hb6;have hx6:=ah (hx5.O.below hb6);clear y0 y1 x0 x1 x2 x3 x4 x5 x6 fB fC;clear q1 q2 q3 q4 q5 hV2 hP2 c0 c1 c2 c3 c4 c5 c6 g1 g2 g3 hz hb6 hx5 hT5 h05 YV jrc lB5 l95 jrf;have hKp:∀W9,Fb LL aT w7 W' W9->KeepsFrom w4 W' W9/\KpB aT (z3+1) W' W9:=λW9 h9=>
         ⟨KeepsFrom.weak h9.k (by omega),h9.b,(Boxed.cell (show Boxed W9 (z3+1) 4 (.bool false)from h9.held (z3+1,Obj.cells #[.bool false] 4 (0,0)) (by rw[OZ.O];simp))).trans (Boxed.cell (show Boxed W' (z3+1) 4 (.bool false)from hS.held (z3+1,Obj.cells #[.bool false] 4 (0,0)) (by rw[OZ.O];simp))).symm⟩
        have jsN:=ah hKp;clear hKp;by_cases wU:0<IQ p U b g f
        ·have hsm:=ah (show YD p b g T (pre'++[⟨f,hf,Yq⟩])=zY U ⟨g,f,b,IQ p U b g f⟩by rw[hnx2.O];exact XZ (by omega) wU)
         obtain⟨N,hN⟩:∃N,IQ p U b g f=N:=⟨_,rfl⟩;rw[hN]at hsm wU
         rw[hN];clear hN;have hmo:=ah hx6.O.own.aF;have c3:W6.cell? ⟨bx,3,none⟩=some (.slice Am U.aF.length cm):=hx6.O.cells.2.2.2.1;have g1:W6.cell? B=some (.int .i64 b):=Boxed.cell (show Boxed W6 B 3 (b)from hT6.held (B,Obj.cells #[b] 3 (0,0)) (by rw[OZ.O];simp))
         have g2:W6.cell? z9=some (.int .i64 g):=Boxed.cell (show Boxed W6 z9 3 (g)from hT6.held (z9,Obj.cells #[g] 3 (0,0)) (by rw[OZ.O];simp))
         have lbx6:=hx6.O.lt;have juW:aT<=W6.heap.size:=by omega
         gi_wp2_with (refine Yw _ rfl (.tmp 76) (.tmp 82) 38 118 rfl aT _ 4 32 underlying38 Me rfl (by decide) (by decide) _ U.aF ⟨g,f,b,N⟩ rfl (hmo.O.alloc _) W6 1 rfl rfl (Dc _ _ _) (P6 _) (by omega) (by simp;omega) ?_;refine bD ?_)
         unfold Hid;intro v' w9 C9 jg AA;obtain⟨A9,c9,Oe⟩:=C9.isSlice;rw[aX,pX]at Oe
         subst Oe;have hal:Below W6 W6 (W6.alloc (.cells #[g,f,b,N] 118)):=(aj _ W6).alloc (ay _) _;have hxa:=hx6.O.below hal;have hTa:=hT6.below hWn hal;have wO:=hxa.own.JI jg C9;have J9:some bx≠(Value.slice Am U.aF.length cm).ownBlock:=λhe=>by
          rcases hxa.own.aF.qy hxa.vw.blk (by decide)with h|h
          ·simp only at h;rw[h]at he;cases he
          ·exact h he.symm
         have hT9:=hTa.grown hWn jg (λr e=>⟨(qK hxa.own.aF r e).1,hxa.jik e.symm,λx hx he=>pV.not_row hTa.held (by
          intro x hx cs sp e2;rw[OZ.O]at hx
          simp at hx
          rcases hx with rfl|rfl|rfl|rfl|rfl<;>simp at e2) hxa.own.aF x hx (by rw[he];exact e.symm)⟩)
         have jbb:=ah (hxa.vw.grown jg J9);have YT:=ah wO;have hLb:∀x∈LL,x.1≠bx:=by
          intro x hx;rw[OZ.O]at hx
          simp at hx
          rcases hx with rfl|rfl|rfl|rfl|rfl<;>simp only<;>omega
         clear c3 hxa wO J9 jg C9 hmo hx6 AA hTa hal g1 g2;gi_wp2_with (refine Yx rfl (.tmp 84) (.tmp 83) rfl rfl A9 (U.aF.length+1) c9 (V:=⟨.slice (some Jw) s.on.length con,k1,k2,.slice Am U.aF.length cm,k4,k5,k6,k7,k8⟩) (V':=⟨.slice (some Jw) s.on.length con,k1,k2,.slice A9 (U.aF.length+1) c9,k4,k5,k6,k7,k8⟩) (s':={U with aF:=U.aF++[⟨g,f,b,N⟩]}) (cs:=[]) (b:=bx) (by rw[jd];exact jbb.O.blk) YT.O Yi rfl rfl rfl (λw10 AX Ai=>?_);refine bD ?_)
         unfold Hid;have jsA:=hT9.step hWn Ai (by omega) ⟨_,_,_,jbb.O.blk⟩ hLb
         have sQ:=ah (show Bx w10 aT bx 40 [] ⟨.slice (some Jw) s.on.length con,k1,k2,.slice A9 (U.aF.length+1) c9,k4,k5,k6,k7,k8⟩ (YD p b g T (pre'++[⟨f,hf,Yq⟩]))by rw[hsm.O];exact AX)
         clear AX Ai jbb YT hT9;gi_wp2_with fail
         have:=jsN.O _ jsA;exact⟨this.1,this.2,⟨_,sQ.O⟩,hS.trans jsA⟩
        ·have he:=ah (show YD p b g T (pre'++[⟨f,hf,Yq⟩])=U by rw[hnx2.O];exact X0 (by omega) wU)
         gi_wp2_with fail
         have:=jsN.O _ hT6;exact⟨this.1,this.2,⟨_,by rw[he.O];exact hx6.O⟩,hS.trans hT6⟩
      case jrl=>
       intro W' hI;obtain⟨⟨u,hx⟩,hS⟩:=hI;have hx5:=ah (show Bx W' aT bx 40 [] ⟨.slice (some Jw) s.on.length con,k1,k2,u,k4,k5,k6,k7,k8⟩ (gdX p b (Zj p s pre) (g+1))by rw[hnx.O,hsX.O];exact hx)
       clear hx;gi_wp2_with fail
       go_roundw
       case rel=>exact⟨g+1,u,by omega,by go_num,hx5.O,⟨λy hy=>hS.held y (by rw[OZ.O];simp at hy ⊢;rcases hy with h|h<;>simp[h]),hS.b,hS.k⟩⟩
       case measure=>simp[dY];omega
      case jrj=>
       intro c k W' hk hI;obtain⟨rfl,⟨⟨u,hx⟩,hS⟩,h8⟩:=hI;have hfull:=jh6 hk h8;have he1:gdX p b (Zj p s pre) (g+1)=YD p b g T (qB p false k):=by rw[hnx.O,hsX.O,hfull]
       have he2:Zj p s (pre++[⟨b,hb,hfr⟩])=YD p b g T (qB p false k):=by
        rw[jbU,<- he1];exact jdi (by rw[he1];exact h8) p.aW.length (by omega)
       rw[<- he2]at hx h8
       clear hfull he1 he2;refine wpIn_exit ?_
       gi_wp2_with fail
       exact⟨hS.k,rfl,⟨⟨u,hx⟩,(λy hy=>hS.held y (by rw[OZ.O];simp at hy ⊢;simp[hy])),h0.trans (hS.b.mono hle0)⟩,h8⟩
     ·rw[iE hlk];have hx4:=ah (show Bx W3 aT bx 40 [] ⟨.slice (some Jw) s.on.length con,k1,k2,u,k4,k5,k6,k7,k8⟩ (gdX p b (Zj p s pre) (g+1))by rw[hnx.O];unfold tK;rw[au hlk];exact hx3.O)
      clear hx3 hlk;gi_wp2_with fail
      go_roundw
      case rel=>exact⟨g+1,u,by omega,by go_num,hx4.O,⟨λy hy=>hS3.held y (by simp at hy ⊢;rcases hy with h|h<;>simp[h]),hS3.b,hS3.k⟩⟩
      case measure=>simp[dY];omega
    ·obtain rfl:g=p.aW.length:=by omega
     gi_wp2_with fail
     refine⟨hS.k,⟨hS.b,?_⟩,⟨?_,?_,h0r⟩⟩
     ·exact(Boxed.cell (show Boxed wr (z6+1) 4 (.bool true)from hS.held _ (bW ..))).trans (Boxed.cell (show Boxed W (z6+1) 4 (.bool true)from hHo _ (bW ..))).symm
     ·exact⟨u,by rw[jbU];exact hx'.O⟩
     ·intro y hy;exact hS.held y (by simp at hy ⊢;simp[hy])
  case Ei=>
   intro D W hD hI hWd;rw[jfO]at hI
   obtain⟨⟨u,hx⟩,_,h0⟩:=hI;have hx':=ah hx;have Bj:=fD hb0 h0;have fH:=hR.O _ h0;have lT:=hx.own.one;obtain⟨q0,q1,q2,q3,q4,q5,q6⟩:=hx.cells;simp only at q0 q1 q2 q3 q4 q5 q6
   clear hx;go_wp2_with (refine dU (.tmp 4) (.tmp 86) dV (⟨.slice (some Jw) s.on.length con,k1,k2,u,k4,k5,k6,k7,k8⟩:SV) rfl fH rfl lT (λw9 dS jg=>?_))
   have wO:=hx'.O.own.keptBy jg fH;obtain⟨p0,p1,p2,p3,p4,p5,p6⟩:=jB.cells dS;have eF:=Below.gV Bj jg;have jub:=hsE.O;have jug:=h07.size;have hD9:w9.heap[D]?=some (.deferred (some [])):=(jg.block D (bI.1 hWd).1 (by intro he;injection he with he;omega)).trans hWd
   clear q0 q1 q2 q3 q4 q5 q6;go_wp2_with fail;have hgD:=grownBy_putObj' w9 D (.deferred none);have je9:=jB.grown dS hgD (by intro he;injection he with he;omega)
   have jpe:=wO.wS hgD (λr e=>by cases e;exact⟨_,hD9,rfl⟩)
   have je2:Below w w (w9.putObj D (.deferred none)):=sV eF hgD (jw eF) (λk hk=>by injection hk with hk;omega)
   clear p0 p1 p2 p3 p4 p5 p6;obtain⟨p0,p1,p2,p3,p4,p5,p6⟩:=jB.cells je9;refine⟨by simp,.inl ⟨_,_,rfl,run_takeDeferred hD9,?_⟩⟩
   exact⟨.tuple #[SV.val (⟨.slice (some Jw) s.on.length con,k1,k2,u,k4,k5,k6,k7,k8⟩:SV),zI],by simp[results,results66,go_sem,SV.val,p0,p1,p2,p3,p4,p5,p6],F7 dw.O (jpe.from_ hle) je2⟩
  case hstop=>
   intro D c k W hD hk hI hWd;obtain⟨rfl,hI,h8⟩:=hI;rw[<- jhY hk h8]at hI
   obtain⟨⟨u,hx⟩,_,h0⟩:=hI;refine wpIn_exit ?_
   have hx':=ah hx;have Bj:=fD hb0 h0;have fH:=hR.O _ h0;have lT:=hx.own.one;obtain⟨q0,q1,q2,q3,q4,q5,q6⟩:=hx.cells;simp only at q0 q1 q2 q3 q4 q5 q6
   clear hx;go_wp2_with (refine dU (.tmp 4) (.tmp 86) dV (⟨.slice (some Jw) s.on.length con,k1,k2,u,k4,k5,k6,k7,k8⟩:SV) rfl fH rfl lT (λw9 dS jg=>?_))
   have wO:=hx'.O.own.keptBy jg fH;obtain⟨p0,p1,p2,p3,p4,p5,p6⟩:=jB.cells dS;have eF:=Below.gV Bj jg;have jub:=hsE.O;have jug:=h07.size;have hD9:w9.heap[D]?=some (.deferred (some [])):=(jg.block D (bI.1 hWd).1 (by intro he;injection he with he;omega)).trans hWd
   clear q0 q1 q2 q3 q4 q5 q6;go_wp2_with fail;have hgD:=grownBy_putObj' w9 D (.deferred none);have je9:=jB.grown dS hgD (by intro he;injection he with he;omega)
   have jpe:=wO.wS hgD (λr e=>by cases e;exact⟨_,hD9,rfl⟩)
   have je2:Below w w (w9.putObj D (.deferred none)):=sV eF hgD (jw eF) (λk hk=>by injection hk with hk;omega)
   clear p0 p1 p2 p3 p4 p5 p6;obtain⟨p0,p1,p2,p3,p4,p5,p6⟩:=jB.cells je9;refine⟨by simp,.inl ⟨_,_,rfl,run_takeDeferred hD9,?_⟩⟩
   exact⟨.tuple #[SV.val (⟨.slice (some Jw) s.on.length con,k1,k2,u,k4,k5,k6,k7,k8⟩:SV),zI],by simp[results,results66,go_sem,SV.val,p0,p1,p2,p3,p4,p5,p6],F7 dw.O (jpe.from_ hle) je2⟩
 ·have hne:(aO p s !=0)=true:=by simpa using hc
  have dw:=ah (jdo hc);clear hc;have fH:=hR.O _ h1;go_wp2_with (refine dU (.tmp 4) (.tmp 21) dV dV rfl fH rfl rfl (λw9 dS jg=>?_))
  obtain⟨p0,p1,p2,p3,p4,p5,p6⟩:=jB.cells dS;have eF:=Below.gV hB1 jg;go_wp2_with fail;rw[Exit.noGoto_ret];refine⟨.tuple #[dV.val,(aO p s)],by simp[results,results66,go_sem,SV.val,p0,p1,p2,p3,p4,p5,p6],jJ dw.O eF⟩
end
section
attribute [local go_sem] aV jF iY jI
attribute [local go_sem] Oper.semAt_some
structure VB(w:World)(aT b:Nat)(rst:List Value)(V:SV)(s:aI)(row:Option Nat)(L:List (Nat×Obj))(W:World):Prop where
 bx:Bx W aT b 152 rst V s
 held:pV L W
 st:Step (λj=>j=b\/row=some j) w W
theorem VB.own{w:World}{aT b:Nat}{rst:List Value}{V:SV}{s:aI}{row:Option Nat}{L:List (Nat×Obj)}{B:Nat}(hL:∀x∈L,x.1<B)(hB:w.heap.size<=B){X Y:World}{rw_:Option Nat}(hs:VB w aT b rst V s row L X)
  (hg:X.grownBy Y rw_) (hr:∀r,rw_=some r->B<=r/\∃o:Obj,X.heap[r]?=some o/\o.isCells=false):VB w aT b rst V s row L Y:=
 ⟨hs.bx.wS hg λr e=>(hr r e).2,pV.from_ hL () X Y rw_ hs.held hg hr,hs.st.trans' (Step.nG (ks:=λk=>rw_=some k) hg λk e=>e) λk hk e=>by have:=(hr k e).1;omega⟩
theorem VB.below{w:World}{aT b:Nat}{rst:List Value}{V:SV}{s:aI}{row:Option Nat}{L:List (Nat×Obj)}{W W':World}(h:VB w aT b rst V s row L W)(hb:Below W W W'):VB w aT b rst V s row L W':=
 ⟨h.bx.below hb,λx hx=>(hb.block x.1 (h.held.lt x hx)).trans (h.held x hx),h.st.trans (.of_below hb)⟩
theorem jeF{B:Nat}{ks:Nat->Prop}{W W':World}(h:Step ks W W')(hc:∀k,ks k->∃cs t sp,W.heap[k]?=some (.cells cs t sp)):KeepsFrom B W W':=
 ⟨h.size,λk o _ hk ho=>h.heap hk λhh=>by
  obtain⟨cs,t,sp,e⟩:=hc k hh;rw[e]at hk
  injection hk with hk
  subst hk;cases ho⟩
theorem jaf{W:World}{g:Nat}{t:TypeId}{cur:List Value}(h:iJ W g t cur):∃cs t sp,W.heap[g]?=some (.cells cs t sp):=⟨_,_,_,h⟩
theorem jl2{L:List (Nat×Obj)}{W:World}{g:Nat}{t:TypeId}{cur:List Value}(h:pV L W)(hb:iJ W g t cur)(ht:∀x∈L,∀cs sp,x.2≠.cells cs t sp):∀x∈L,x.1≠g:=λx hx he=>by
 have h1:=h x hx;rw[he,show W.heap[g]?=_ from hb]at h1
 injection h1 with h1
 exact ht x hx _ _ h1.symm
theorem Step.cell{ks:Nat->Prop}{w w':World}(h:Step ks w w'){p:Addr}(hb:p.block<w.heap.size)(hn:¬ks p.block):w'.cell? p=w.cell? p:=by
 unfold World.cell?;rw[h.block p.block hb hn]
theorem VB.step{w:World}{aT b:Nat}{rst jp0:List Value}{V V':SV}{s s':aI}{row:Option Nat}{L:List (Nat×Obj)}{W W':World}(h:VB w aT b rst V s row L W)(hx:Bx W' aT b 152 jp0 V' s')(hs:Step (λj=>j=b\/row=some j) W W')(hL:∀x∈L,x.1≠b/\row≠some x.1):VB w aT b jp0 V' s' row L W':=
 ⟨hx,λx hx=>hs.heap (h.held x hx) λhh=>hh.elim (hL x hx).1 (hL x hx).2,h.st.trans hs⟩
theorem jnZ(W:World)(x:Move):Calls prog 157 (#[EW x]++#[]) W λe W'=>e=.returned (.bool (x.n==0))/\Below W W W':=by
 have hb0:Below W W (W.alloc (IE x)):=(aj _ _).alloc (ay _) _;change Calls prog 157 #[EW x] W _;unfold EW;go_enter func157,ntmps157
 go_wp2_with fail;go_ret
 exact⟨rfl,hb0⟩
theorem jkr:Enters prog 157:=enters_of func157 (by kernel_rfl) rfl
theorem dX.jgE{w w':World}{aT:Nat}{V:SV}{s:aI}(h:dX w aT V s)(hs:Step (λq=>V.aF.ownBlock=some q) w w'){v:Value}{l:List Move}(hv:Own oC 4 118 w' aT v l):dX w' aT {V with aF:=v} {s with aF:=l}:=
 ⟨h.on.step hs (tH (h.on.apart h.aF (by decide))),h.rlen,λb hb=>(h.row b hb).step hs (tH ((h.row b hb).apart h.aF (by decide))),h.ak.step hs (tH (h.ak.apart h.aF (by decide))),h.llen,λo ho=>(h.aK o ho).step hs (tH ((h.aK o ho).apart h.aF (by decide))),h.aA.step hs (tH (h.aA.apart h.aF (by decide))),hv,h.jf.step hs (tH (h.jf.apart h.aF (by decide))),h.O.step hs (tH (h.O.apart h.aF (by decide))),h.dB.step hs (tH (h.dB.apart h.aF (by decide))),h.apart,h.yT⟩
theorem jmu(w:World){aT b:Nat}{V:SV}{s:aI}{bn g:Nat}{v:Int}{m:Value}(hB:Bx w aT b 152 (Gy bn g v m) V s)(hb:aT<=b)(hm8:s.aF.length<=8)(hN:∀x∈s.aF,1<=x.n/\x.n<=200)(hv: -100000<=v/\v<=100000):
  Calls prog 109 #[.pointer (some b)] w λe w'=>e=.returned (.tuple #[])/\∃V',V'={V with aF:=V'.aF}/\
   Bx w' aT b 152 (Gy bn g ((Ju bn g).mid s.aF v 0).2 m) V' {s with aF:=(Ju bn g).rest s.aF v}/\Step (λj=>j=b\/V.aF.ownBlock=some j) w w':=by
 have hB':=ah hB;obtain⟨k0,k1,k2,k3,k4,k5,k6,k7,k8⟩:=V;obtain⟨Am,cm,hvm⟩:=hB.own.aF.isSlice;obtain rfl:k3=.slice Am s.aF.length cm:=hvm;obtain⟨c0,c1,c2,c3,c4,c5,c6⟩:=hB.cells;simp only at c0 c1 c2 c3 c4 c5 c6
 have hbl:=hB.lt;clear hB;refine(iy (n:=9)).1 ?_
 refine callsIn_of_wp_marks func109 rfl trivial ?_ rfl
 simp only[ntmps109,iR,bP,dQ,Nat.reduceAdd,Nat.reduceSub,gW,iG,jh,iM,fJ,gG];refine qY.2 ?_
 go_wp2_with fail;refine((iy (n:=8)).1 (jdN 8 _ _ _ _)).mono ?_
 rintro e W1 ⟨rfl,rfl⟩;go_wp2_with fail;clear c0 c1 c2 c3 c4 c5 c6;obtain⟨L,hL⟩:∃L:List (Nat×Obj),L=[(w.heap.size,Obj.cells #[.pointer (some b)] 149 (0,0)),(w.heap.size+1,Obj.cells #[.slice Am s.aF.length cm] 38 (0,0))]:=⟨_,rfl⟩;have hba:Below w w ((w.alloc (.cells #[.pointer (some b)] 149)).alloc (.cells #[.slice Am s.aF.length cm] 38)):=((aj _ _).alloc (ay _) _).alloc (by simp) _
 have hH0:pV L ((w.alloc (.cells #[.pointer (some b)] 149)).alloc (.cells #[.slice Am s.aF.length cm] 38)):=by
  intro x hx;rw[hL]at hx
  simp at hx
  rcases hx with rfl|rfl
  ·exact(qX (by simp)).trans (oh rfl)
  ·exact oh (by simp)
 have hs2:((w.alloc (.cells #[.pointer (some b)] 149)).alloc (.cells #[.slice Am s.aF.length cm] 38)).heap.size=w.heap.size+1+1:=by simp
 have hI0:VB w aT b (Gy bn g v m) ⟨k0,k1,k2,.slice Am s.aF.length cm,k4,k5,k6,k7,k8⟩ s (Value.slice Am s.aF.length cm).ownBlock L ((w.alloc (.cells #[.pointer (some b)] 149)).alloc (.cells #[.slice Am s.aF.length cm] 38)):=
  ⟨hB'.O.below hba,hH0,.of_below hba⟩
 generalize (w.alloc (.cells #[.pointer (some b)] 149)).alloc (.cells #[.slice Am s.aF.length cm] 38)=w2 at hba hH0 hs2 hI0 ⊢
 have jhk:∀x∈L,x.1<w2.heap.size:=hH0.lt;have hw2:w.heap.size<=w2.heap.size:=hba.size;have wU:∀x∈s.aF,0<=(Ju bn g).num x:=λx hx=>by have:=(hN x hx).1;show 0<=x.n;omega
 refine(qY (n:=9)).1 ?_
 refine YI (s1:=2) (s2:=3) 9 (by omega) (w.heap.size+1) Am cm s.aF (by omega) rfl
  (λk W=>k<=s.aF.length/\VB w aT b (Gy bn g ((Ju bn g).mid s.aF v (s.aF.length - k)).2 m) ⟨k0,k1,k2,.slice Am s.aF.length cm,k4,k5,k6,k7,k8⟩ {s with aF:=((Ju bn g).mid s.aF v (s.aF.length - k)).1} (Value.slice Am s.aF.length cm).ownBlock L W)
  (λk X Y row hs hg hr=>⟨hs.1,hs.2.own jhk hw2 hg hr⟩) ⟨aN _,by rw[Nat.sub_zero,iw.jf3];exact hI0⟩ ?hR ?hsz ?wV ?hbody ?Ei
 case hR=>
  intro k V ⟨hk,hI⟩;refine⟨Boxed.cell (show Boxed V (w.heap.size+1) 38 (.slice Am s.aF.length cm)from hI.held (w.heap.size+1,Obj.cells #[.slice Am s.aF.length cm] 38 (0,0)) (by rw[hL];simp)),λi hi=>?_⟩
  have lZ:=iw.P9 (C:=Ju bn g) s.aF v (s.aF.length - k);obtain⟨gm,c',cur,e1,_,_,q0,q1,q2,q3⟩:=hI.bx.own.bZ (k:=i) (by show i<(iw.mid _ _ _ _).1.length;rw[lZ];omega)
  have he:bZ ((Ju bn g).mid s.aF v (s.aF.length - k)).1 i=bZ s.aF i:=by
   unfold bZ;rw[fK,iw.jaP v (i:=i) (by omega) (by omega),fK,bQ (by omega)]
  injection e1 with e1
  simp only[he]at q0 q1 q2 q3
  exact⟨gm,e1,q0,q1,q2,q3⟩
 case hsz=>
  intro k V ⟨hk,hI⟩;have:=hI.held.lt (w.heap.size+1,Obj.cells #[.slice Am s.aF.length cm] 38 (0,0)) (by rw[hL];simp)
  simp only at this
  omega
 case wV=>
  intro l x W K hK;simp only[aQ,bG,bH]at hK ⊢
  unfold EW at hK ⊢
  gi_wp2
  exact hK
 case hbody=>
  intro l k x X W hxk ⟨hk,hI⟩ hbX hX;simp only[aQ,bG,bH];unfold EW;have hxl:x<s.aF.length:=by omega
  have ek:s.aF.length - k=x+1:=by omega
  have ek1:s.aF.length - (k+1)=x:=by omega
  rw[ek]at hI
  rw[ek1];have hmx:bZ s.aF x=s.aF[x]:=pJ hxl;have hNx:=hN _ (dh hxl);have hov:=iw.Xe wU v (x+1);have Jj:=λh=>iw.jiN (C:=Ju bn g) v hxl h
  have MF:=λh=>iw.jf4 (C:=Ju bn g) v hxl h
  have hat:=iw.jaP (C:=Ju bn g) v (i:=x) (j:=x+1) hxl (by omega)
  have hml:=iw.P9 (C:=Ju bn g) s.aF v (x+1);obtain⟨M,ov,hmid⟩:∃M ov,(Ju bn g).mid s.aF v (x+1)=(M,ov):=⟨_,_,rfl⟩;rw[hmid]at hI hov Jj MF hat hml
  simp only at hI hov Jj hat hml
  have hML:bZ M x=s.aF[x]:=by
   unfold bZ;rw[fK,hat]
   rfl
  have hI':=ah hI;have hLx:=ah (show ∀x∈L,x.1≠b/\(Value.slice Am s.aF.length cm).ownBlock≠some x.1 from λy hy=>by
   refine⟨λhe=>?_,λhe=>?_⟩
   ·rw[hL]at hy
    simp at hy
    rcases hy with rfl|rfl<;>simp only at he<;>omega
   ·obtain⟨cur,hc⟩:=hI.bx.own.aF.block he;exact jl2 (g:=y.1) hI.held (show iJ W y.1 118 cur.toList from by simpa[iJ]using hc) (λz hz cs sp e=>by
     rw[hL]at hz
     simp at hz
     rcases hz with rfl|rfl<;>injection e with _ e _<;>revert e<;>decide) y hy rfl)
  clear hI hmid hat;have x0:=hbX.cell (j:=0) rfl;have x1:=hbX.cell (j:=1) rfl;have y0:W.cell? w=some (.pointer (some b)):=Boxed.cell (show Boxed W w 149 (.pointer (some b))from hI'.O.held (w.heap.size,Obj.cells #[.pointer (some b)] 149 (0,0)) (by rw[hL];simp))
  have z1:=hI'.O.bx.box.cell (j:=7) rfl;have z2:=hI'.O.bx.box.cell (j:=8) rfl;have l0:=hI'.O.held.lt (w.heap.size,Obj.cells #[.pointer (some b)] 149 (0,0)) (by rw[hL];simp)
  simp only at l0
  have lb:b<W.heap.size:=hI'.O.bx.lt;have lX:=hbX.lt;have q1:=λo d os=>cZ (w:=W) (b:=X) lX o d os
  have q2:=λo d os=>cZ (w:=W) (b:=w.heap.size) l0 o d os
  have q3:=λo d os=>cZ (w:=W) (b:=b) lb o d os
  have jma:=ah hbX;clear hbX;rw[hmx]at x0 x1 ⊢
  by_cases h1:s.aF[x].src=bn
  ·have t1:(s.aF[x].src==(bn:Int))=true:=by simpa using h1
   by_cases h2:s.aF[x].dW=g
   ·have t2:(s.aF[x].dW==(g:Int))=true:=by simpa using h2
    have hst:=ah (Jj (SH.2 ⟨h1,h2⟩));clear Jj MF h1 h2;gi_wp2_with fail
    refine uZ (by kernel_rfl) (by kernel_rfl) (by kernel_rfl) ?_
    repeat(go_big_quiet_step (fail))
    refine wpQuiet_nil ?_
    intro W6 hw6;have hb6:=dN hw6;clear hw6;clear x0 x1 y0 z1 z2 q1 q2 q3 t1 t2;gi_wp2_with fail
    have ZQ:=ah (hI'.O.below hb6);have jj3:=ah (jma.O.below hb6 lX);obtain⟨gm,c',cur,e1,hgb,hbm,p0,p1,p2,p3⟩:=ZQ.O.bx.own.bZ (k:=x) (show x<M.length by omega)
    injection e1 with e1 e2 e3
    clear e2 e3;simp only[hML]at p3
    subst e1;have hgw:gm<w.heap.size:=(hB'.O.own.aF.size gm rfl).2;have hgm:gm≠b:=iJ.ne hbm ZQ.O.bx.box (by decide)
    obtain⟨n0,hn0⟩:∃n0,s.aF[x].n=n0:=⟨_,rfl⟩;have hst':=hst.O;change(Ju bn g).mid s.aF v x=(M.set x {s.aF[x]with n:=s.aF[x].n - iw.less ov s.aF[x].n},ov - iw.less ov s.aF[x].n)at hst'
    rw[hn0]at p3 hNx hst'
    have hst2:=ah hst';have x3:=jj3.O.cell (j:=3) rfl;rw[hmx,hn0]at x3
    clear hst hst';obtain⟨mm,hmm⟩:∃mm,iw.less ov n0=mm:=⟨_,rfl⟩;have hmb:0<=mm/\mm<=n0:=by rw[<- hmm];unfold iw.less;omega
    have hmm':=ah hmm;have l06:=aJ l0 hb6.size;have lb6:=aJ lb hb6.size;have lX6:=aJ lX hb6.size;have y0:W6.cell? w=some (.pointer (some b)):=Boxed.cell (show Boxed W6 w 149 (.pointer (some b))from ZQ.O.held (w.heap.size,Obj.cells #[.pointer (some b)] 149 (0,0)) (by rw[hL];simp))
    obtain⟨Vx,hVx⟩:∃Vx:SV,Vx=⟨k0,k1,k2,.slice (some gm) s.aF.length cm,k4,k5,k6,k7,k8⟩:=⟨_,rfl⟩;obtain⟨sM,hsM⟩:∃sM:aI,sM={s with aF:=M}:=⟨_,rfl⟩
    have joX:=ah (show Bx W6 aT b 152 (Gy bn g ov m) Vx sM by rw[hVx,hsM];exact ZQ.O.bx)
    have hc3:∀(w':World) (o':Int),Bx w' aT b 152 (Gy bn g o' m) Vx sM->w'.cell? ⟨b,3,none⟩=some (.slice (some gm) s.aF.length cm):=λw' o' h=>by have:=h.cells.2.2.2.1;rw[hVx]at this;exact this
    have juT:=ah hc3;have hxi:(x:Int)<(s.aF.length:Int):=by omega
    have hwn:IntKind.i64.wrap (n0 - mm)=n0 - mm:=aP _ (by omega)
    have jsv:=ah hVx;have jua:=ah hsM;clear hc3 hmm hVx hsM;refine Fq (by kernel_rfl) (λh=>by obtain⟨_,_,h⟩:=h;exact h) (by kernel_rfl) (Yj 16 (λw'=>Step (·=b) W6 w'/\∃o',Bx w' aT b 152 (Gy bn g o' m) Vx sM) (λw'=>Bx w' aT b 152 (Gy bn g ov m) Vx sM)
     (λw1 w2=>Step (·=b) w1 w2/\Bx w2 aT b 152 (Gy bn g (ov - mm) m) Vx sM) 12 [
     λg' _=>g' 28=.pointer (some b),λg' _=>g' 29=.pointer (some b),λg' _=>g' 30=.pointer (some b),λg' _=>g' 31=.pointer (some ⟨b,3,none⟩),λg' _=>g' 32=.slice (some gm) s.aF.length cm,λg' _=>g' 33=x,λg' _=>g' 34=.pointer (some ⟨gm,x*4,none⟩),λg' _=>g' 35=.pointer (some ⟨gm,x*4+3,none⟩),λg' _=>g' 36=n0,λg' _=>g' 37=.pointer (some b),λg' _=>g' 38=.pointer (some ⟨X,3,none⟩),λg' _=>g' 39=n0,λg' w'=>g' 40=mm/\Bx w' aT b 152 (Gy bn g (ov - mm) m) Vx sM,λg' _=>g' 41=.int .i64 (n0 - mm),λg' _=>g' 42=.pointer (some ⟨gm,x*4,none⟩),λg' _=>g' 43=.pointer (some ⟨gm,x*4+3,none⟩)] (by kernel_rfl) rfl (by kernel_rfl)
     (λw1 w2 h hb=>⟨h.1.trans (.of_below hb),h.2.elim λo' h=>⟨o',h.below hb⟩⟩) (λw1 w2 h h'=>⟨h.1.trans h'.1,_,h'.2⟩) (λw1 w2 h hb=>h.below hb) ⟨.of_below (aj _ _).drew,_,joX.O.drew⟩ joX.O.drew ?jtg (λf w9 hT hR=>?jth))
    case jtg=>
     simp only[aG,aS];refine fQ.v (λgq w' hT ho hd=>?_) ?_
     ·have e1:=ho 1 rfl;have e2:=(hT.1.cell (p:=w) l06 (by show ¬w.heap.size=b;omega)).trans y0
      go_simp
     refine fQ.v (λgq w' hT ho hd=>?_) ?_
     ·have e1:_=_:=hd.d 0;go_simp
     refine fQ.v (λgq w' hT ho hd=>?_) ?_
     ·have e1:_=_:=hd.d 1;go_simp
     refine fQ.v (λgq w' hT ho hd=>?_) ?_
     ·have e1:_=_:=hd.d 2;go_simp
     refine fQ.v (λgq w' hT ho hd=>?_) ?_
     ·have e1:_=_:=hd.d 3;obtain⟨o',hx'⟩:=hT.2;have e2:=juT.O w' o' hx';go_simp
     refine fQ.v (λgq w' hT ho hd=>?_) ?_
     ·have e1:=ho 2 rfl;go_simp
     refine fQ.v (λgq w' hT ho hd=>?_) ?_
     ·have e1:_=_:=hd.d 4;have e2:_=_:=hd.d 5;go_simp
     refine fQ.v (λgq w' hT ho hd=>?_) ?_
     ·have e1:_=_:=hd.d 6;go_simp
     refine fQ.v (λgq w' hT ho hd=>?_) ?_
     ·have e1:_=_:=hd.d 7;have e2:=(hT.1.cell (p:=⟨gm,x*4+3,none⟩) hbm.lt hgm).trans p3;go_simp
     refine fQ.v (λgq w' hT ho hd=>?_) ?_
     ·have e1:=ho 1 rfl;have e2:=(hT.1.cell (p:=w) l06 (by show ¬w.heap.size=b;omega)).trans y0
      go_simp
     refine fQ.v (λgq w' hT ho hd=>?_) ?_
     ·have e1:=ho 3 rfl;go_simp
     refine fQ.v (λgq w' hT ho hd=>?_) ?_
     ·have e1:_=_:=hd.d 10;have e2:=(hT.1.cell (p:=⟨X,3,none⟩) lX6 (by show ¬X=b;omega)).trans x3
      go_simp
     refine fQ.cons ⟨λgq w1 w2 h hb=>⟨h.1,h.2.below hb⟩,λhne=>absurd rfl hne,λgq gq' w1 he h=>?_,λgq w' hT hJ ho hd=>?_⟩ ?_
     ·have e61:=he 12 _ 40 (.self 12) rfl rfl;exact⟨e61.symm.trans h.1,h.2⟩
     ·have e1:_=_:=hd.d 9;have e2:_=_:=hd.d 11;have hcall:=jkE w' n0 (hJ (.inl rfl)) (by omega) (by omega)
      rw[hmm'.O]at hcall
      unfold iq;go_simp
      refine hcall.mono ?_
      rintro e w'' ⟨rfl,hx2,hs2⟩;refine⟨_,rfl,⟨?_,hx2⟩,hs2,hx2⟩
      simp[xB,upd]
     refine fQ.v (λgq w' hT ho hd=>?_) ?_
     ·have e1:_=_:=hd.d 8;have e2:gq 40=mm:=(show gq 40=mm/\_ from hd.d 12).1
      go_simp
     refine fQ.v (λgq w' hT ho hd=>?_) ?_
     ·have e1:_=_:=hd.d 4;have e2:_=_:=hd.d 5;go_simp
     refine fQ.v (λgq w' hT ho hd=>?_) ?_
     ·have e1:_=_:=hd.d 14;go_simp
     exact fQ.nil
    case jth=>
     obtain⟨r28,r29,r30,r31,r32,r33,r34,r35,r36,r37,r38,r39,⟨r40,fH⟩,r41,r42,r43,_⟩:=hR;simp only[kP,qJ,aG,aS,bU,dH,bY,cO,dA,dL,aQ,bG,bH,r28,r29,r30,r31,r32,r33,r34,r35,r36,r37,r38,r39,r40,r41,r42,r43];clear r28 r29 r30 r31 r32 r33 r34 r35 r36 r37 r38 r39 r40 r41 r42 r43;have jsf:=hT.1.blk hbm hgm;have p39:=(hT.1.cell (p:=⟨gm,x*4+3,none⟩) hbm.lt hgm).trans p3;refine tC rfl (.tmp 43) (.tmp 41) rfl rfl gm (x*4+3) _ (n0 - mm) rfl rfl p39 (jsf.frozen _) (λw10 jtY=>?_)
     refine eP ?_
     have wO:dX w9 aT ⟨k0,k1,k2,.slice (some gm) s.aF.length cm,k4,k5,k6,k7,k8⟩ {s with aF:=M}:=by
      have:=fH.own;rw[jsv.O,jua.O]at this
      exact this
     obtain⟨o1,hg1⟩:=Own.store wO.aF (λ_=>rfl) (i:=x) (show x<M.length by omega) (show 3<4 by omega) (y:={s.aF[x]with n:=n0 - mm}) (u:=.int .i64 (n0 - mm)) (by
      have e:M[x]'(by omega)=s.aF[x]:=by rw[<- hML,pJ (by omega)]
      show oC _=(oC (M[x]'(by omega))).set 3 _
      rw[e];rfl)
     rw[jtY]at o1 hg1
     have jsb:Bx w10 aT b 152 (Gy bn g (ov - mm) m) ⟨k0,k1,k2,.slice (some gm) s.aF.length cm,k4,k5,k6,k7,k8⟩ {s with aF:=M.set x {s.aF[x]with n:=n0 - mm}}:=by
      have AA:=fH.box;rw[jsv.O]at AA
      exact⟨AA.grown hg1 (by intro he;injection he with he;exact hgm he.symm),wO.JI hg1 o1,fH.ty⟩
     have Ai:Step (λj=>j=b\/(Value.slice (some gm) s.aF.length cm).ownBlock=some j) W6 w10:=
      (hT.1.mono λj hj=>.inl hj).trans (Step.nG (ks:=λj=>j=b\/(Value.slice (some gm) s.aF.length cm).ownBlock=some j) hg1 λj hj=>.inr (by rw[<- hj];rfl))
     have dw:KeepsFrom w2 W w10/\(k+1<=s.aF.length/\VB w aT b (Gy bn g ((Ju bn g).mid s.aF v x).2 m) ⟨k0,k1,k2,.slice (some gm) s.aF.length cm,k4,k5,k6,k7,k8⟩ {s with aF:=((Ju bn g).mid s.aF v x).1} (Value.slice (some gm) s.aF.length cm).ownBlock L w10):=by
      refine⟨(Ef hb6).trans ((jeF hT.1 λj hj=>by subst hj;exact jaf joX.O.box).trans (IG hg1 λr e=>by injection e with e;subst e;exact jaf jsf)),by omega,?_⟩
      rw[hst2.O,hmm'.O];exact ZQ.O.step jsb Ai hLx.O
     exact dw
   ·have t2:(s.aF[x].dW==(g:Int))=false:=by simpa using h2
    have hst:=ah (MF (by
     cases hq:(Ju bn g).is s.aF[x]
     ·rfl
     ·exact absurd (SH.1 hq).2 h2))
    clear Jj MF h1 h2;gi_wp2_with fail
    refine uZ (by kernel_rfl) (by kernel_rfl) (by kernel_rfl) ?_
    repeat(go_big_quiet_step (fail))
    refine wpQuiet_nil ?_
    intro W6 hw6;have hb6:=dN hw6;clear hw6;clear x0 x1 y0 z1 z2 q1 q2 q3 t1 t2;gi_wp2_with fail
    exact⟨Ef hb6,by omega,by rw[hst.O];exact hI'.O.below hb6⟩
  ·have t1:(s.aF[x].src==(bn:Int))=false:=by simpa using h1
   have hst:=ah (MF (by
     cases hq:(Ju bn g).is s.aF[x]
     ·rfl
     ·exact absurd (SH.1 hq).1 h1))
   clear Jj MF h1;gi_wp2_with fail
   refine uZ (by kernel_rfl) (by kernel_rfl) (by kernel_rfl) ?_
   repeat(go_big_quiet_step (fail))
   refine wpQuiet_nil ?_
   intro W6 hw6;have hb6:=dN hw6;clear hw6;clear x0 x1 y0 z1 z2 q1 q2 q3 t1;gi_wp2_with fail
   exact⟨Ef hb6,by omega,by rw[hst.O];exact hI'.O.below hb6⟩
 case Ei=>
  intro D W hD ⟨hk,hI⟩ hWd;rw[uV]at hI
  have hmv:(Ju bn g).rest s.aF v=((Ju bn g).mid s.aF v 0).1.filter λx=>!(x.n==0):=by
   rw[iw.mid_zero];unfold iw.rest;refine nO (λf=>List.filter f ((Ju bn g).cut s.aF v).1) (funext λx=>?_)
   show(!decide (x.n=0))= !(x.n==0);by_cases hx:x.n=0<;>simp[hx]
  have hml:=iw.P9 (C:=Ju bn g) s.aF v 0;obtain⟨M,ov,hmid⟩:∃M ov,(Ju bn g).mid s.aF v 0=(M,ov):=⟨_,_,rfl⟩;rw[hmid]at hI hml hmv
  simp only at hI hml hmv
  have jlS:=ah hmv;have hmid':=ah hmid;clear hmv hmid;have hI':=ah hI;have y0:W.cell? w=some (.pointer (some b)):=Boxed.cell (show Boxed W w 149 (.pointer (some b))from hI.held (w.heap.size,Obj.cells #[.pointer (some b)] 149 (0,0)) (by rw[hL];simp))
  have l0:=hI.held.lt (w.heap.size,Obj.cells #[.pointer (some b)] 149 (0,0)) (by rw[hL];simp)
  simp only at l0
  have c3:=hI.bx.cells.2.2.2.1;simp only at c3
  have hnb:=ah (show ∀j,(Value.slice Am s.aF.length cm).ownBlock=some j->j≠b/\j<w.heap.size from λj hj=>by
   refine⟨λhe=>?_,(hB'.O.own.aF.size j hj).2⟩
   rcases hI.bx.own.aF.qy hI.bx.box (by decide)with h|h
   ·simp only at h;rw[h]at hj;cases hj
   ·exact h (by rw[<- he];exact hj))
  have lb:b<W.heap.size:=hI.bx.lt;have hLD:D≠b:=by omega
  clear hI;gi_wp2_with fail
  have jjr:=ah hml;clear hml;refine AQ 10 (λw'=>Step (λj=>(Value.slice Am s.aF.length cm).ownBlock=some j) W w') (λw'=>Below W W w') (λw1 w2=>Step (λj=>(Value.slice Am s.aF.length cm).ownBlock=some j) w1 w2) 6 [
   λg' _=>g' 44=.pointer (some b),λg' _=>g' 45=.pointer (some b),λg' _=>g' 46=.pointer (some b),λg' _=>g' 47=.pointer (some b),λg' _=>g' 48=.pointer (some ⟨b,3,none⟩),λg' _=>g' 49=.slice Am s.aF.length cm,λg' w'=>Own oC 4 118 w' aT (g' 50) (M.filter λx=>!(x.n==0)),λg' _=>g' 51=.pointer (some b),λg' _=>g' 52=.pointer (some b),λg' _=>g' 53=.pointer (some ⟨b,3,none⟩)] (by kernel_rfl) (by kernel_rfl) rfl (by kernel_rfl)
   (λw1 w2 h hb=>h.trans (.of_below hb)) (λw1 w2 h h'=>h.trans h') (λw1 w2 h hb=>fD h hb) (.of_below (aj _ _).drew) (aj _ _).drew ?jkA (λf w9 hT hR=>?jkB)
  case jkA=>
   simp only[aG,aS];refine fQ.v (λgq w' hT ho hd=>?_) ?_
   ·have e1:=ho 1 rfl;have e2:=(hT.cell (p:=w) l0 (λh=>by have:=(hnb.O _ h).2;simp only at this;omega)).trans y0
    go_simp
   refine fQ.v (λgq w' hT ho hd=>?_) ?_
   ·have e1:=ho 1 rfl;have e2:=(hT.cell (p:=w) l0 (λh=>by have:=(hnb.O _ h).2;simp only at this;omega)).trans y0
    go_simp
   refine fQ.v (λgq w' hT ho hd=>?_) ?_
   ·have e1:_=_:=hd.d 1;go_simp
   refine fQ.v (λgq w' hT ho hd=>?_) ?_
   ·have e1:_=_:=hd.d 2;go_simp
   refine fQ.v (λgq w' hT ho hd=>?_) ?_
   ·have e1:_=_:=hd.d 3;go_simp
   refine fQ.v (λgq w' hT ho hd=>?_) ?_
   ·have e1:_=_:=hd.d 4;have e2:=(hT.cell (p:=⟨b,3,none⟩) lb (λh=>(hnb.O _ h).1 rfl)).trans c3
    go_simp
   refine fQ.cons ⟨λgq w1 w2 h hb=>h.below hb,λhne=>absurd rfl hne,λgq gq' w1 he h=>?_,λgq w' hT hJ ho hd=>?_⟩ ?_
   ·have e61:=he 6 _ 50 (.self 6) rfl rfl;simp only[e61]at h
    exact h
   ·have e1:_=_:=hd.d 5;have hbel:=hJ (.inl rfl);have hcall:=jdy w' aT (.slice Am s.aF.length cm) M 157 #[] (λx=>x.n==0) jkr (hI'.O.below hbel).bx.own.aF (by have:=jjr.O;omega) (λk _ V _=>jnZ V _)
    unfold iq;go_simp
    refine hcall.mono ?_
    rintro e w'' ⟨v',rfl,ho',hs',_⟩;refine⟨_,rfl,?_,hs'⟩
    simpa[xB,upd]using ho'
   refine fQ.v (λgq w' hT ho hd=>?_) ?_
   ·have e1:_=_:=hd.d 0;go_simp
   refine fQ.v (λgq w' hT ho hd=>?_) ?_
   ·have e1:_=_:=hd.d 7;go_simp
   refine fQ.v (λgq w' hT ho hd=>?_) ?_
   ·have e1:_=_:=hd.d 8;go_simp
   exact fQ.nil
  case jkB=>
   obtain⟨r44,r45,r46,r47,r48,r49,C9,r51,r52,r53,_⟩:=hR;obtain⟨A9,c9,Oe⟩:=C9.isSlice;rw[Oe]at C9
   simp only[kP,qJ,aG,aS,bU,dH,bY,cO,dA,dL,aQ,bG,bH,r44,r45,r46,r47,r48,r49,Oe,r51,r52,r53];clear r44 r45 r46 r47 r48 r49 r51 r52 r53 Oe;have wO:dX w9 aT ⟨k0,k1,k2,.slice A9 (M.filter λx=>!(x.n==0)).length c9,k4,k5,k6,k7,k8⟩ {s with aF:=M.filter λx=>!(x.n==0)}:=hI'.O.bx.own.jgE hT C9
   have AA:iJ w9 b 152 (SV.cells ⟨k0,k1,k2,.slice Am s.aF.length cm,k4,k5,k6,k7,k8⟩++Gy bn g ov m):=hT.blk hI'.O.bx.box (λh=>(hnb.O _ h).1 rfl)
   refine MX rfl (.tmp 53) (.tmp 50) rfl rfl A9 (M.filter λx=>!(x.n==0)).length c9 (V:=⟨k0,k1,k2,.slice Am s.aF.length cm,k4,k5,k6,k7,k8⟩) (cs:=Gy bn g ov m) (b:=b) AA wO jgv rfl rfl rfl (λw10 AX Ai=>?_)
   refine eP ?_
   have hD9:w9.heap[D]?=some (.deferred (some [])):=hT.heap hWd (λh=>by have:=(hnb.O _ h).2;omega)
   have jke:=Ai.heap hD9 hLD;have hs10:Step (λj=>j=b\/(Value.slice Am s.aF.length cm).ownBlock=some j) w w10:=hI'.O.st.trans ((hT.mono λj h=>.inr h).trans (Ai.mono λj h=>.inl h))
   have sQ:=ah AX;clear AX Ai wO AA hT C9;go_wp2_with fail;have hgD:=grownBy_putObj' w10 D (.deferred none);have YO:=sQ.O.wS hgD (λr e=>by cases e;exact⟨_,jke,rfl⟩)
   refine⟨by simp,.inl ⟨_,_,rfl,run_takeDeferred jke,?_⟩⟩
   refine⟨.tuple #[],uU rfl _ _ _,rfl,⟨k0,k1,k2,.slice A9 (M.filter λx=>!(x.n==0)).length c9,k4,k5,k6,k7,k8⟩,rfl,?_,hs10.trans' (Step.nG (ks:=λk=>some D=some k) hgD λk e=>e) λk hk e=>?_⟩
   ·rw[hmid'.O,jlS.O];exact YO
   ·injection e with e
    omega
end
end Wh
