/- Texts of the claim, joined. -/
import Derived.Deep.OwnRows
import Derived.Test.YtniaecolikhmeaaGreatDoorQ11
import Derived.Test.YtniaecolikhmeaaGreatDoorQ16
set_option maxHeartbeats 20000000
set_option maxRecDepth 100000
set_option linter.all false
namespace Wh
open Go Go.RowKit Go.Shelf Go.Proofs Tryz
section
attribute [local go_sem] aV jF iY jI
def dV:SV:=⟨mM,mM,mM,mM,mM,mM,mM,[],[]⟩
theorem dX.zero(w:World)(aT:Nat):dX w aT dV kF:=
 ⟨Own.nil,rfl,(λb h=>by cases h),Own.nil,rfl,(λo h=>by cases h),Own.nil,Own.nil,Own.nil,Own.nil,Own.nil,by unfold GN dV;simp[mM,Value.ownBlock],List.Pairwise.nil⟩
theorem Dj(W:World):jB (W.alloc (.cells TL 40)) W dV:=iJ.new _ _ _
theorem xg{W w3:World}{o:Obj}(hg:(W.alloc o).grownBy w3 (some W.heap.size)):Below W W w3:=((aj _ _).alloc (ay _) _).grown hg (by simp) (λk hk=>by injection hk with hk;omega)
theorem dX.pushRow{w:World}{aT:Nat}{V:SV}{s:aI}{w1 w2:World}(h:dX w aT V s)(hb:Below w w w1){u:Value}{x:List Int}(hu:Own iW 1 3 w1 aT u x)(hf:∀g,u.ownBlock=some g->w.heap.size<=g)(hg:w1.grownBy w2 V.on.ownBlock)
  {v':Value} (hv:Own (λu:Value=>[u]) 1 23 w2 aT v' (V.rows++[u])):dX w2 aT {V with on:=v',rows:=V.rows++[u]} {s with on:=s.on++[x]}:=by
 have k:=h.below hb;have hlt:∀a,a∈V.rows++[V.jf,V.O,V.dB]->∀g,a.ownBlock=some g->g<w.heap.size:=by
  intro a ha g hg;rcases jD.1 ha with ha|ha
  ·obtain⟨i,hi,rfl⟩:=bg ha;have hil:i<s.on.length:=by rw[<- h.rlen];exact hi
   have e1:V.row i=V.rows[i]:=by unfold SV.row;simp[hi]
   exact((h.row i hil).size g (by rw[e1];exact hg)).2
  ·simp only[fF,mg,lC]at ha
   rcases ha with rfl|rfl|rfl
   ·exact(h.jf.size g hg).2
   ·exact(h.O.size g hg).2
   ·exact(h.dB.size g hg).2
 refine⟨hv,by simp[h.rlen],λb hlt=>?_,k.ak.kept hg (k.ak.apart k.on (by decide)),k.llen,λo ho=>(k.aK o ho).kept hg ((k.aK o ho).apart k.on (by decide)),k.aA.kept hg (k.aA.apart k.on (by decide)),k.aF.kept hg (k.aF.apart k.on (by decide)),k.jf.kept hg (k.jf.apart k.on (by decide)),k.O.kept hg (k.O.apart k.on (by decide)),k.dB.kept hg (k.dB.apart k.on (by decide)),?_,k.yT⟩
 ·have hb':b<s.on.length+1:=by simpa using hlt
  by_cases hlt:b<s.on.length
  ·have e1:SV.row {V with on:=v',rows:=V.rows++[u]} b=V.row b:=by
    unfold SV.row;simp[fE (show b<V.rows.length by rw[h.rlen];exact hlt)]
   have e2:fO (s.on++[x]) b=fO s.on b:=by
    unfold fO;simp[fE hlt]
   rw[e1];show Own iW 1 3 w2 aT (V.row b) (fO (s.on++[x]) b);rw[e2];exact(k.row b hlt).kept hg ((k.row b hlt).apart k.on (by decide))
  ·have hb2:b=s.on.length:=by omega
   have e1:SV.row {V with on:=v',rows:=V.rows++[u]} b=u:=by
    unfold SV.row;rw[hb2,<- h.rlen];simp
   have e2:fO (s.on++[x]) b=x:=by
    unfold fO;rw[hb2];simp
   rw[e1];show Own iW 1 3 w2 aT u (fO (s.on++[x]) b);rw[e2];exact hu.kept hg (hu.apart k.on (by decide))
 ·show GN (V.rows++[u]++[V.jf,V.O,V.dB]);have ha:=h.apart;unfold GN at ha ⊢
  obtain⟨p1,p2,p3⟩:=kY.1 ha;rw[gZ,kY];refine⟨p1,rG.2 ⟨λb hb g hg he=>?_,p2⟩,λa ha b hb g hg he=>?_⟩
  ·have h1:=hlt b (Cc _ hb) g he;have h2:=hf g hg;omega
  ·rcases jD.1 hb with hb|hb
   ·obtain rfl:=ig.1 hb;have h1:=hlt a (tY _ ha) g hg;have h2:=hf g he;omega
   ·exact p3 a ha b hb g hg he
theorem dX.one{w:World}{aT:Nat}{V:SV}{s:aI}(h:dX w aT V s):V.cells.all (λu=>u.oneCell')=true:=by
 simp[SV.cells,qP h.on,qP h.ak,qP h.aA,qP h.aF,qP h.jf,qP h.O,qP h.dB]
theorem jez(n:Nat):(madeCells #[Value.int .i64 0] n).toList=(List.replicate n (0:Int)).flatMap iW:=by
 induction n with
 |zero=>simp[madeCells]
 |succ n ih=>
  rw[Dl,gQ,<- ih];unfold madeCells;rw[Array.range_succ];simp[iW,Nat.mod_one]
theorem Own.J5(w:World)(n:Nat)(hn:n<=1000):Own iW 1 3 (w.alloc (.cells (madeCells #[Value.int .i64 0] n) 3)) w (.slice (some w) n n) (List.replicate n 0):=by
 have:=Own.lit (aT:=w.heap.size) (enc:=iW) (size:=1) w 3 (madeCells #[Value.int .i64 0] n) (List.replicate n 0) (ay _) (by simp;omega) (λ_=>rfl) (jez n)
 simpa using this
theorem jfR(w:World)(B n cs:Nat)(As:Option Addr)(h1:w.cell? ⟨B,1,none⟩=some (.slice As n cs))(hn:n<=1000):
  Calls prog 29 #[.pointer (some B)] w λe w'=>∃A c,e=.returned (.slice A n c)/\Own iW 1 3 w' w (.slice A n c) (List.replicate n 0)/\Below w w w':=by
 have hmk:=run_make_row' (P:=prog) 23 3 (zI) 8 underlying23 (by kernel_rfl) rfl .i64 .i64 n (by omega) (by omega)
 go_enter func29,ntmps29
 go_wp2_with fail;go_ret
 exact⟨_,_,rfl,Own.J5 w n hn,(aj _ _).alloc (ay _) _⟩
def Ql(p:dG)(k:Nat):aI:=
 ⟨List.replicate k (List.replicate p.aW.length 0),[],[],[],List.replicate p.aW.length 0,List.replicate p.aW.length 0,List.replicate p.aW.length 0⟩
theorem jbt(p:dG)(k:Nat):Ql p (k+1)={Ql p k with on:=(Ql p k).on++[List.replicate p.aW.length 0]}:=by
 unfold Ql;simp[Dl]
theorem dX.begun{w:World}{aT:Nat}{vi vu vx:Value}{z:List Int}(h1:Own iW 1 3 w aT vi z)(h2:Own iW 1 3 w aT vu z)(h3:Own iW 1 3 w aT vx z)
  (h12:∀g,vi.ownBlock=some g->vu.ownBlock≠some g) (h13:∀g,vi.ownBlock=some g->vx.ownBlock≠some g) (h23:∀g,vu.ownBlock=some g->vx.ownBlock≠some g):
  dX w aT ⟨mM,mM,mM,mM,vi,vu,vx,[],[]⟩ ⟨[],[],[],[],z,z,z⟩:=
 ⟨Own.nil,rfl,(λb h=>by cases h),Own.nil,rfl,(λo h=>by cases h),Own.nil,Own.nil,h1,h2,h3,by
  unfold GN;refine rG.2 ⟨λb hb=>?_,rG.2 ⟨λb hb=>?_,qZ _ _⟩⟩
  ·simp only[fF,mg,lC]at hb
   rcases hb with rfl|rfl
   ·exact h12
   ·exact h13
  ·obtain rfl:=ig.1 hb;exact h23,List.Pairwise.nil⟩
theorem jnQ(w:World)(v:Value)(p:dG)(hp:kK w w v p):
  Calls prog 10 #[v] w λe w'=>∃V,e=.returned (.tuple #[V.val,(fU p)])/\dX w' w V (if fU p=0 then begin p else kF)/\Below w w w':=by
 have hP:=hp;obtain⟨_,_,rfl,⟨Ab,cb,rfl,hlb,hb⟩,⟨As,cs,rfl,hls,hs⟩⟩:=hp;have hb0:Below w w ((w.alloc (kD p Ab cb As cs)).alloc (.cells TL 40)):=((aj _ _).alloc (ay _) _).alloc (by simp) _
 have kX:w.heap.size+1<((w.alloc (kD p Ab cb As cs)).alloc (.cells TL 40)).heap.size:=by simp
 have hk0:iJ ((w.alloc (kD p Ab cb As cs)).alloc (.cells TL 40)) w 25 [.slice Ab p.dP.length cb,.slice As p.aW.length cs]:=(iJ.new _ _ _).alloc _;have hk1:jB ((w.alloc (kD p Ab cb As cs)).alloc (.cells TL 40)) (w.heap.size+1) dV:=by
  have:=iJ.new (w.alloc (kD p Ab cb As cs)) 40 TL;rw[dK]at this
  exact this
 have hP':=ah (λW (hW:Below w w W)=>hP.up hW hW.size)
 clear hb hs hP;go_enter func10,ntmps10
 go_wp2_with fail;generalize hW0:(w.alloc (kD p Ab cb As cs)).alloc _=W0 at hb0 kX hk0 hk1 ⊢
 clear hW0;have hk0':=ah hk0;have jhe:=ah hk1;clear hk0 hk1;refine(PZ _ _ p (hP'.O _ hb0)).mono ?_
 rintro e W1 ⟨rfl,hb1⟩;have hB1:=fD hb0 hb1;have hz1:=aJ kX hb1.size;have hx1:=jhe.O.below hb1 kX;by_cases hz:fU p=0
 ·obtain⟨_,hc6,_,hc3⟩:=oI hz;rw[hz];have hz':=ah hz;clear hz;have hp1:=(hk0'.O.below hb1 (by omega)).cell (j:=1) rfl
  go_wp2_with fail;refine(jfR W1 w.heap.size _ _ _ hp1 (by omega)).mono ?_
  rintro e W2 ⟨E2,k2,rfl,ho2,hb2⟩;have Gu:=fD hb1 hb2;have hp2:=(hk0'.O.below Gu (by omega)).cell (j:=1) rfl
  clear hp1;go_wp2_with fail;refine(jfR W2 w.heap.size _ _ _ hp2 (by omega)).mono ?_
  rintro e W3 ⟨E3,k3,rfl,ho3,hb3⟩;have Rx:=fD Gu hb3;have hp3:=(hk0'.O.below Rx (by omega)).cell (j:=1) rfl
  clear hp2;go_wp2_with fail;refine(jfR W3 w.heap.size _ _ _ hp3 (by omega)).mono ?_
  rintro e W4 ⟨E4,k4,rfl,QG,hb4⟩;have jbc:=fD Rx hb4;clear hp3;have hO:=dX.begun ((ho2.below (fD hb3 hb4)).from_ hb1.size) ((ho3.below hb4).from_ (Gu).size) (QG.from_ Rx.size)
   (λg h h'=>by have:=(ho2.size g h).2;have:=(ho3.size g h').1;omega) (λg h h'=>by have:=(ho2.size g h).2;have:=(QG.size g h').1;have:=hb3.size;omega) (λg h h'=>by have:=(ho3.size g h).2;have:=(QG.size g h').1;omega)
  have hone:=hO.one;have hO':=ah hO;clear hO ho2 ho3 QG;have hnb:jB (W4.alloc (.cells TL 40)) W4 dV:=iJ.new _ _ _;go_wp2_with (refine dU (.tmp 6) (.tmp 20) dV ⟨mM,mM,mM,mM,.slice E2 p.aW.length k2,.slice E3 p.aW.length k3,.slice E4 p.aW.length k4,[],[]⟩ rfl hnb rfl hone (λw5 OV hg5=>?_);refine bD ?_)
  unfold Hid;have hlb:W0.heap.size<=W4.heap.size:=jbc.size;have jfd:Below W0 W0 w5:=(jbc.alloc jbc.size _).grown hg5 (by have:=jbc.size;simp;omega) (λk hk=>by injection hk with hk;omega)
  have hO5:=(hO'.O.alloc (.cells TL 40)).keptBy hg5 hnb.blk;have jsF:=ah hO5;have XJ:=ah OV;have hpl0:=(hk0'.O.below jfd (by omega)).cell (j:=0) rfl
  clear hO5 OV hO' hnb hg5 hone hb2 hb3 hb4 Gu Rx jbc;generalize W4.heap.size=b at hlb XJ ⊢
  go_wp2_with fail;go_loopw[24] (λi wr=>∃(k:Nat) (V:SV),k<=p.dP.length/\i=.int .i64 k/\dX wr W0.heap.size V (Ql p k)/\jB wr b V/\Below W0.heap.size W0 wr) (λi _=>p.dP.length - (RowKit.intOf i).toNat)
  case atStart=>exact⟨0,_,aN _,rfl,jsF.O,XJ.O,jfd⟩
  case round=>
   clear hpl0 jsF XJ jfd;obtain⟨k,V,hk,rfl,hOw,hbx,hbw⟩:=hrel;have Jf:=ah hOw;have EP:=ah hbx;have hB:=fD hb0 hbw;have XH:=hbx.lt;clear hOw hbx;by_cases hlt:k<p.dP.length
   ·go_wp2_with fail;refine EU 5 [
     λg _=>g 26=.pointer (some b),λg _=>g 27=V.on,λg _=>g 28=.func (.func 29) #[] #[.pointer (some w)],λg w'=>(λv w'=>Own iW 1 3 w' wr v (List.replicate p.aW.length 0)) (g 29) w',λg w'=>(λv w'=>∃bb u,v=.slice (some ⟨bb,0,none⟩) 1 1/\w'.cell? ⟨bb,0,none⟩=some u/\bb<w'.heap.size/\Own iW 1 3 w' wr u (List.replicate p.aW.length 0)) (g 30) w'] (by kernel_rfl) (by kernel_rfl) rfl (by kernel_rfl) ?_ (λf w2 hb2 hR=>?_)
    simp only[aG,aS];refine bT.v (λg w' hb ho hd=>?_) ?_
    ·have e1:=ho 6 rfl;go_simp
    refine bT.v (λg w' hb ho hd=>?_) ?_
    ·have e1:_=_:=hd.d 0;have x0:=(EP.O.below hb XH).cells.1;go_simp
    refine bT.v (λg w' hb ho hd=>?_) ?_
    ·have e1:=ho 5 rfl;go_simp
    refine bT.cons (sN.one (d:=29) (p:=(λv w'=>Own iW 1 3 w' wr v (List.replicate p.aW.length 0))) rfl rfl (λv w1 w2 h hb=>h.below hb) (λg w' hb ho hd=>?_)) ?_
    ·have e1:_=_:=hd.d 2;have hp1:=(hk0'.O.below (fD hbw hb) (by omega)).cell (j:=1) rfl
     unfold iq;go_simp
     refine(jfR w' w.heap.size _ _ _ hp1 (by omega)).mono ?_
     rintro e w2 ⟨E,kc,rfl,ho2,hb2⟩;exact⟨_,rfl,ho2.from_ hb.size,hb2⟩
    refine bT.cons (sN.one (d:=30) (p:=(λv w'=>∃bb u,v=.slice (some ⟨bb,0,none⟩) 1 1/\w'.cell? ⟨bb,0,none⟩=some u/\bb<w'.heap.size/\Own iW 1 3 w' wr u (List.replicate p.aW.length 0))) rfl rfl (λv w1 w2 h hb=>?_) (λg w' hb ho hd=>?_)) ?_
    ·obtain⟨bb,u,h1,h2,h3,h4⟩:=h;exact⟨bb,u,h1,(hb.cell (p:=bb) h3).trans h2,aJ h3 hb.size,h4.below hb⟩
    ·have e1:Own iW 1 3 w' wr (g 29) (List.replicate p.aW.length 0):=hd.d 3;obtain⟨E,kc,e2⟩:=e1.isSlice;have e1':=ah e1;clear e1;unfold iq;go_simp
     have e3:Own iW 1 3 w' wr (.slice E p.aW.length kc) (List.replicate p.aW.length 0):=by
      have:=e1'.O;rw[e2]at this
      simpa using this
     exact⟨e3.alloc _,(aj _ _).alloc (ay _) _⟩
    exact bT.nil;obtain⟨r0,r1,r2,r3,⟨bb,u,r4,c4,l4,o4⟩,_⟩:=hR;simp only[kP,qJ,aG,aS,bU,dH,bY,cO,dA,dL,aQ,bG,bH,r0,r1,r2,r4];clear r0 r1 r2 r3 r4;have YS:=Jf.O.below hb2;have huf:∀g,Value.ownBlock u=some g->wr.heap.size<=g:=λg hg=>(o4.size g hg).1
    refine jV _ rfl (.tmp 27) (.tmp 30) 35 23 rfl W0.heap.size _ 1 24 underlying35 SQ rfl (by decide) (by decide) V.on V.rows u rfl YS.on bb 1 rfl rfl (λj x hj=>by
     cases j with
     |zero=>simp only[oM,mZ]at hj;subst hj;exact c4
     |succ j=>simp at hj) (VJ _ (qP o4)) (by rw[YS.rlen];simp[Ql];omega) (aU hbw.size hb2.size) ?_
    intro v7 w7 zk UU Um FY;have YU:=Jf.O.pushRow hb2 (o4.from_ hbw.size) huf UU zk;have G5:jB w7 b V:=(EP.O.below hb2 XH).grown UU (λhe=>by
     rcases YS.on.qy (EP.O.below hb2 XH).blk (by decide)with h|h
     ·rw[h]at he;cases he
     ·exact h he.symm)
    have Ru:Below W0 W0 w7:=(fD hbw hb2).trans FY;have Yr:=YU.box G5 0 v7;have Kq:=G5.Zn v7;rw[<- jbt]at Yr
    have ja8:=Ru.setCell (p:=b) hlb v7;obtain⟨Av,cv,hv7⟩:=zk.isSlice;simp only[aX,bP,dQ,fM]at hv7
    have jbe:=ah Yr;have O1:=ah Kq;have q1:=G5.cells.1;have qf:=G5.frozen 0;clear Yr Kq YU G5 zk UU Um FY huf YS o4 c4;subst hv7;go_wp2_with fail;go_roundw
    case rel=>exact⟨k+1,_,by omega,by go_num,jbe.O,O1.O,ja8⟩
    case measure=>simp[dY];omega
   ·obtain rfl:k=p.dP.length:=by omega
    have hR1:=jhe.O.below hbw kX;obtain⟨b0,b1,b2,b3,b4,b5,b6⟩:=EP.O.cells;have hone:=Jf.O.one;go_wp2_with (refine dU (.tmp 2) (.tmp 34) dV V rfl hR1 rfl hone (λw9 dS jg=>?_))
    have wO:=Jf.O.keptBy jg hR1.blk;obtain⟨p0,p1,p2,p3,p4,p5,p6⟩:=dS.cells;have dw:Below w w w9:=hB.grown jg hB.size (λk hk=>by injection hk with hk;omega)
    have hsB:w.heap.size<=W0.heap.size:=hb0.size;clear b0 b1 b2 b3 b4 b5 b6;go_wp2_with fail;exact bV (v:=.tuple #[V.val,zI]) (by simp[results,results10,go_sem,SV.val,p0,p1,p2,p3,p4,p5,p6]) rfl ⟨V,rfl,wO.from_ hsB,dw⟩
 ·have hne:(fU p !=0)=true:=by simpa using hz
  go_wp2_with (refine dU (.tmp 2) (.tmp 11) dV dV rfl hx1 rfl rfl (λw9 dS jg=>?_))
  obtain⟨p0,p1,p2,p3,p4,p5,p6⟩:=dS.cells;have dw:Below w w w9:=hB1.grown jg hB1.size (λk hk=>by injection hk with hk;omega)
  go_wp2_with fail;refine bV (v:=.tuple #[dV.val,(fU p)]) (by simp[results,results10,go_sem,SV.val,p0,p1,p2,p3,p4,p5,p6]) rfl ⟨dV,rfl,?_,dw⟩
  exact dX.zero _ _
structure RB(w:World)(aT:Nat)(V:SV)(z:List Int)(k:Nat):Prop where
 on:Own (λu:Value=>[u]) 1 23 w aT V.on V.rows
 rlen:V.rows.length=k
 row:∀b,b<k->Own iW 1 3 w aT (V.row b) z
 jf:Own iW 1 3 w aT V.jf z
 O:Own iW 1 3 w aT V.O z
 dB:Own iW 1 3 w aT V.dB z
 WY:V.ak=mM
 WX:V.aA=mM
 UK:V.aF=mM
namespace RB
variable {w w':World} {aT:Nat} {V:SV} {z:List Int} {k:Nat}
theorem below(h:RB w aT V z k)(hb:Below w w w'):RB w' aT V z k:=
 ⟨h.on.below hb,h.rlen,λb hk=>(h.row b hk).below hb,h.jf.below hb,h.O.below hb,h.dB.below hb,h.WY,h.WX,h.UK⟩
theorem keptBy(h:RB w aT V z k){b:Nat}{t:TypeId}{cur:List Value}(hg:w.grownBy w' (some b))(hb:iJ w b t cur)(h1:23≠t:=by decide)(h2:3≠t:=by decide):RB w' aT V z k:=
 ⟨h.on.kept hg (h.on.qy hb h1),h.rlen,λb hk=>(h.row b hk).kept hg ((h.row b hk).qy hb h2),h.jf.kept hg (h.jf.qy hb h2),h.O.kept hg (h.O.qy hb h2),h.dB.kept hg (h.dB.qy hb h2),h.WY,h.WX,h.UK⟩
theorem from_(h:RB w aT V z k){base':Nat}(hb:base'<=aT):RB w base' V z k:=
 ⟨h.on.from_ hb,h.rlen,λb hk=>(h.row b hk).from_ hb,h.jf.from_ hb,h.O.from_ hb,h.dB.from_ hb,h.WY,h.WX,h.UK⟩
theorem one(h:RB w aT V z k):V.cells.all (λu=>u.oneCell')=true:=by
 simp[SV.cells,qP h.on,qP h.jf,qP h.O,qP h.dB,h.WY,h.WX,h.UK,show mM.oneCell'=true from rfl]
theorem push(h:RB w aT V z k){u v':Value}(hu:Own iW 1 3 w aT u z)(hg:w.grownBy w' V.on.ownBlock)(hv:Own (λu:Value=>[u]) 1 23 w' aT v' (V.rows++[u])):RB w' aT {V with on:=v',rows:=V.rows++[u]} z (k+1):=by
 refine⟨hv,by simp[h.rlen],λb hb=>?_,h.jf.kept hg (h.jf.apart h.on (by decide)),h.O.kept hg (h.O.apart h.on (by decide)),h.dB.kept hg (h.dB.apart h.on (by decide)),h.WY,h.WX,h.UK⟩
 by_cases hlt:b<k
 ·have e1:SV.row {V with on:=v',rows:=V.rows++[u]} b=V.row b:=by
   unfold SV.row;simp[fE (show b<V.rows.length by rw[h.rlen];exact hlt)]
  rw[e1];exact(h.row b hlt).kept hg ((h.row b hlt).apart h.on (by decide))
 ·have hb2:b=k:=by omega
  have e1:SV.row {V with on:=v',rows:=V.rows++[u]} b=u:=by
   unfold SV.row;rw[hb2,<- h.rlen];simp
  rw[e1];exact hu.kept hg (hu.apart h.on (by decide))
theorem view{p:dG}(h:RB w aT V (List.replicate p.aW.length 0) p.dP.length)(hc:p.dP.length<=1000)(hc2:p.aW.length<=1000):kG w w V.val (begin p):=by
 obtain⟨A,c,e,_,hA⟩:=h.on.sl (by rw[h.rlen];omega)
 have hrl:=h.rlen;refine⟨_,_,_,_,_,_,_,rfl,⟨A,c,V.rows,by rw[e,hrl];simp[begin],by simp[begin];omega,by simp[begin,hrl],?_,λi x hi=>?_⟩,?_,?_,?_,h.jf.sl (by simp;omega),h.O.sl (by simp;omega),h.dB.sl (by simp;omega)⟩
 ·have:V.rows.flatMap (λu=>[u])=V.rows:=by simp
  rw[this]at hA
  exact hA
 ·have hi':(List.replicate p.dP.length (List.replicate p.aW.length (0:Int)))[i]?=some x:=hi;rw[List.getElem?_replicate]at hi'
  by_cases hlt:i<p.dP.length
  ·rw[aB hlt]at hi'
   injection hi' with hi'
   subst hi';refine⟨V.row i,?_,(h.row i hlt).sl (by simp;omega)⟩
   unfold SV.row;simp[show i<V.rows.length by omega]
  ·rw[au hlt]at hi'
   cases hi'
 ·rw[h.WY];exact⟨none,0,[],rfl,by simp[begin],rfl,At.nil,λi x h=>by simp[begin]at h⟩
 ·rw[h.WX];exact Sl.nil
 ·rw[h.UK];exact Sl.nil
end RB
theorem jiv(w:World)(v:Value)(p:dG)(hp:kK w w v p)(hz:fU p=0):
  Calls prog 17 #[v] w λe w'=>∃V,e=.returned V.val/\RB w' w V (List.replicate p.aW.length 0) p.dP.length/\Below w w w':=by
 obtain⟨_,hc6,_,hc3⟩:=oI hz;clear hz;have hP:=hp;obtain⟨_,_,rfl,⟨Ab,cb,rfl,hlb,hb⟩,⟨As,cs,rfl,hls,hs⟩⟩:=hp;have hb0:Below w w ((w.alloc (kD p Ab cb As cs)).alloc (.cells TL 40)):=((aj _ _).alloc (ay _) _).alloc (by simp) _
 have kX:w.heap.size+1<((w.alloc (kD p Ab cb As cs)).alloc (.cells TL 40)).heap.size:=by simp
 have hk0:iJ ((w.alloc (kD p Ab cb As cs)).alloc (.cells TL 40)) w 25 [.slice Ab p.dP.length cb,.slice As p.aW.length cs]:=(iJ.new _ _ _).alloc _;have hk1:jB ((w.alloc (kD p Ab cb As cs)).alloc (.cells TL 40)) (w.heap.size+1) dV:=by
  have:=iJ.new (w.alloc (kD p Ab cb As cs)) 40 TL;rw[dK]at this
  exact this
 clear hb hs hP;have hmk:=run_make_row' (P:=prog) 23 3 (zI) 8 underlying23 (by kernel_rfl) rfl .i64 .i64 p.aW.length (by omega) (by omega)
 have hmk':=ah hmk;clear hmk;go_enter func17,ntmps17
 go_wp2_with fail;generalize hW0:(w.alloc (kD p Ab cb As cs)).alloc _=W0 at hb0 kX hk0 hk1 ⊢
 clear hW0;have hk0':=ah hk0;have jhe:=ah hk1;clear hk0 hk1;refine IX 14 [rV 5 (.pointer (some ⟨w.heap.size,1,none⟩)),rV 6 (.slice As p.aW.length cs),rV 7 (p.aW.length),λgq w'=>(λv w'=>Own iW 1 3 w' W0 v (List.replicate p.aW.length 0)) (gq 8) w',rV 9 (.pointer (some ⟨w.heap.size,1,none⟩)),rV 10 (.slice As p.aW.length cs),rV 11 (p.aW.length),λgq w'=>(λv w'=>Own iW 1 3 w' W0 v (List.replicate p.aW.length 0)) (gq 12) w',rV 13 (.pointer (some ⟨w.heap.size,1,none⟩)),rV 14 (.slice As p.aW.length cs),rV 15 (p.aW.length),λgq w'=>(λv w'=>Own iW 1 3 w' W0 v (List.replicate p.aW.length 0)) (gq 16) w',λgq w'=>(λv w'=>∃u8 u12 u16,v=.agg #[nS,nS,nS,nS,u8,u12,u16]/\Own iW 1 3 w' W0 u8 (List.replicate p.aW.length 0)/\Own iW 1 3 w' W0 u12 (List.replicate p.aW.length 0)/\Own iW 1 3 w' W0 u16 (List.replicate p.aW.length 0)) (gq 17) w',λgq w'=>(λv w'=>∃b,v=.pointer (some ⟨b,0,none⟩)/\W0.heap.size<=b/\jB w' b dV) (gq 3) w'] ?_ (λf w2 hb2 hR=>?_)
 simp only[aG,aS];refine bT.v (λgq w' hb ho hd=>?_) ?_
 ·have e1:=ho 1 rfl;go_simp
 refine bT.v (λgq w' hb ho hd=>?_) ?_
 ·have e5:_=_:=hd.d 0;have x1:=(hk0'.O.below hb (by omega)).cell (j:=1) rfl
  go_simp
 refine bT.v (λgq w' hb ho hd=>?_) ?_
 ·have e6:_=_:=hd.d 1;go_simp
 refine bT.cons (sN.one (d:=8) (p:=(λv w'=>Own iW 1 3 w' W0 v (List.replicate p.aW.length 0))) rfl rfl (λv w1 w2 h hb=>h.below hb) (λgq w' hb ho hd=>?_)) ?_
 ·have e7:_=_:=hd.d 2;have hmk:=hmk'.O;unfold iq;go_simp
  exact⟨(Own.J5 w' p.aW.length (by omega)).from_ hb.size,(aj _ _).alloc (ay _) _⟩
 refine bT.v (λgq w' hb ho hd=>?_) ?_
 ·have e1:=ho 1 rfl;go_simp
 refine bT.v (λgq w' hb ho hd=>?_) ?_
 ·have e9:_=_:=hd.d 4;have x1:=(hk0'.O.below hb (by omega)).cell (j:=1) rfl
  go_simp
 refine bT.v (λgq w' hb ho hd=>?_) ?_
 ·have e10:_=_:=hd.d 5;go_simp
 refine bT.cons (sN.one (d:=12) (p:=(λv w'=>Own iW 1 3 w' W0 v (List.replicate p.aW.length 0))) rfl rfl (λv w1 w2 h hb=>h.below hb) (λgq w' hb ho hd=>?_)) ?_
 ·have e11:_=_:=hd.d 6;have hmk:=hmk'.O;unfold iq;go_simp
  exact⟨(Own.J5 w' p.aW.length (by omega)).from_ hb.size,(aj _ _).alloc (ay _) _⟩
 refine bT.v (λgq w' hb ho hd=>?_) ?_
 ·have e1:=ho 1 rfl;go_simp
 refine bT.v (λgq w' hb ho hd=>?_) ?_
 ·have e13:_=_:=hd.d 8;have x1:=(hk0'.O.below hb (by omega)).cell (j:=1) rfl
  go_simp
 refine bT.v (λgq w' hb ho hd=>?_) ?_
 ·have e14:_=_:=hd.d 9;go_simp
 refine bT.cons (sN.one (d:=16) (p:=(λv w'=>Own iW 1 3 w' W0 v (List.replicate p.aW.length 0))) rfl rfl (λv w1 w2 h hb=>h.below hb) (λgq w' hb ho hd=>?_)) ?_
 ·have e15:_=_:=hd.d 10;have hmk:=hmk'.O;unfold iq;go_simp
  exact⟨(Own.J5 w' p.aW.length (by omega)).from_ hb.size,(aj _ _).alloc (ay _) _⟩
 refine bT.cons (sN.one (d:=17) (p:=(λv w'=>∃u8 u12 u16,v=.agg #[nS,nS,nS,nS,u8,u12,u16]/\Own iW 1 3 w' W0 u8 (List.replicate p.aW.length 0)/\Own iW 1 3 w' W0 u12 (List.replicate p.aW.length 0)/\Own iW 1 3 w' W0 u16 (List.replicate p.aW.length 0))) rfl rfl (λv w1 w2 h hb=>let ⟨a,b,c,h0,h1,h2,h3⟩:=h;⟨a,b,c,h0,h1.below hb,h2.below hb,h3.below hb⟩) (λgq w' hb ho hd=>?_)) ?_
 ·have e8:Own iW 1 3 w' W0 (gq 8) (List.replicate p.aW.length 0):=hd.d 3;have e12:Own iW 1 3 w' W0 (gq 12) (List.replicate p.aW.length 0):=hd.d 7;have e16:Own iW 1 3 w' W0 (gq 16) (List.replicate p.aW.length 0):=hd.d 11;obtain⟨E2,k2,s8⟩:=e8.isSlice;obtain⟨E3,k3,s12⟩:=e12.isSlice;obtain⟨E4,k4,s16⟩:=e16.isSlice;simp only[Ce]at s8 s12 s16
  rw[s8]at e8
  rw[s12]at e12
  rw[s16]at e16
  have e':=ah (And.intro e8 (And.intro e12 e16));clear e8 e12 e16;unfold iq;go_simp
  exact⟨⟨_,_,_,⟨rfl,rfl,rfl⟩,e'.O.1,e'.O.2.1,e'.O.2.2⟩,aj _ _⟩
 refine bT.cons (sN.one (d:=3) (p:=(λv w'=>∃b,v=.pointer (some ⟨b,0,none⟩)/\W0.heap.size<=b/\jB w' b dV)) rfl rfl (λv w1 w2 h hb=>let ⟨b,h1,h2,h3⟩:=h;⟨b,h1,h2,h3.below hb h3.lt⟩) (λgq w' hb ho hd=>?_)) ?_
 ·unfold iq;go_simp
  exact⟨⟨hb.size,iJ.new _ _ _⟩,(aj _ _).alloc (ay _) _⟩
 exact bT.nil;obtain⟨r5,r6,r7,r8,r9,r10,r11,r12,r13,TK,r15,r16,WM,r3,_⟩:=hR;replace r8:Own iW 1 3 w2 W0 (f 8) (List.replicate p.aW.length 0):=r8;replace r12:Own iW 1 3 w2 W0 (f 12) (List.replicate p.aW.length 0):=r12;replace r16:Own iW 1 3 w2 W0 (f 16) (List.replicate p.aW.length 0):=r16;replace WM:∃u8 u12 u16,(f 17)=.agg #[nS,nS,nS,nS,u8,u12,u16]/\Own iW 1 3 w2 W0 u8 (List.replicate p.aW.length 0)/\Own iW 1 3 w2 W0 u12 (List.replicate p.aW.length 0)/\Own iW 1 3 w2 W0 u16 (List.replicate p.aW.length 0):=WM;replace r3:∃b,(f 3)=.pointer (some ⟨b,0,none⟩)/\W0.heap.size<=b/\jB w2 b dV:=r3;simp only[kP,qJ,aG,aS,bU,dH,bY,cO,dA,dL,aQ,bG,bH,r5,r6,r7,r9,r10,r11,r13,TK,r15];clear r5 r6 r7 r9 r10 r11 r13 TK r15;obtain⟨u8,u12,u16,t17,o8,o12,o16⟩:=WM;obtain⟨b,t3,hlb,H9⟩:=r3;simp only[t17,t3];clear t17 t3 r8 r12 r16;have hR0:RB w2 W0 ⟨mM,mM,mM,mM,u8,u12,u16,[],[]⟩ (List.replicate p.aW.length 0) 0:=⟨Own.nil,rfl,(λb h=>by omega),o8,o12,o16,rfl,rfl,rfl⟩
 have hone:=hR0.one;obtain⟨E2,k2,s8⟩:=o8.isSlice;obtain⟨E3,k3,s12⟩:=o12.isSlice;obtain⟨E4,k4,s16⟩:=o16.isSlice;have jsB:=ah hR0;clear hR0 o8 o12 o16 s8 s12 s16;refine dU (.tmp 3) (.tmp 17) dV ⟨mM,mM,mM,mM,u8,u12,u16,[],[]⟩ rfl H9 rfl hone (λw3 OW hg3=>?_)
 have hb3:Below W0 W0 w3:=hb2.grown hg3 hb2.size (λk hk=>by injection hk with hk;omega)
 have hR3:=ah (jsB.O.keptBy hg3 H9.blk);have Jd:=ah OW;clear jsB hone OW H9 hg3 hb2;refine eP ?_
 go_wp2_with fail;go_loopw[4] (λi wr=>∃(k:Nat) (V:SV),k<=p.dP.length/\i=.int .i64 k/\RB wr W0.heap.size V (List.replicate p.aW.length 0) k/\jB wr b V/\Below W0.heap.size W0 wr) (λi _=>p.dP.length - (RowKit.intOf i).toNat)
 case atStart=>exact⟨0,_,aN _,rfl,hR3.O,Jd.O,hb3⟩
 case round=>
  clear hR3 Jd hb3;obtain⟨k,V,hk,rfl,hOw,hbx,hbw⟩:=hrel;have Jf:=ah hOw;have EP:=ah hbx;have hB:=fD hb0 hbw;have XH:=hbx.lt;have hkP:=hk0'.O.below hbw (by omega)
  have hp0:=hkP.cell (j:=0) rfl;clear hOw hbx hkP;by_cases hlt:k<p.dP.length
  ·go_wp2_with fail;refine IX 7 [rV 25 (.pointer (some b)),rV 26 (V.on),rV 27 (.pointer (some ⟨w.heap.size,1,none⟩)),rV 28 (.slice As p.aW.length cs),rV 29 (p.aW.length),λgq w'=>(λv w'=>Own iW 1 3 w' W0 v (List.replicate p.aW.length 0)) (gq 30) w',λgq w'=>(λv w'=>∃bb u,v=.slice (some ⟨bb,0,none⟩) 1 1/\w'.cell? ⟨bb,0,none⟩=some u/\bb<w'.heap.size/\Own iW 1 3 w' W0 u (List.replicate p.aW.length 0)) (gq 31) w'] ?_ (λf w2 hb2 hR=>?_)
   simp only[aG,aS];refine bT.v (λgq w' hb ho hd=>?_) ?_
   ·have e3:=ho 3 rfl;go_simp
   refine bT.v (λgq w' hb ho hd=>?_) ?_
   ·have e25:_=_:=hd.d 0;have x0:=(EP.O.below hb XH).cells.1;go_simp
   refine bT.v (λgq w' hb ho hd=>?_) ?_
   ·have e1:=ho 1 rfl;go_simp
   refine bT.v (λgq w' hb ho hd=>?_) ?_
   ·have e27:_=_:=hd.d 2;have x1:=(hk0'.O.below (fD hbw hb) (by omega)).cell (j:=1) rfl
    go_simp
   refine bT.v (λgq w' hb ho hd=>?_) ?_
   ·have e28:_=_:=hd.d 3;go_simp
   refine bT.cons (sN.one (d:=30) (p:=(λv w'=>Own iW 1 3 w' W0 v (List.replicate p.aW.length 0))) rfl rfl (λv w1 w2 h hb=>h.below hb) (λgq w' hb ho hd=>?_)) ?_
   ·have e29:_=_:=hd.d 4;have hmk:=hmk'.O;unfold iq;go_simp
    exact⟨(Own.J5 w' p.aW.length (by omega)).from_ (aU hbw.size hb.size),(aj _ _).alloc (ay _) _⟩
   refine bT.cons (sN.one (d:=31) (p:=(λv w'=>∃bb u,v=.slice (some ⟨bb,0,none⟩) 1 1/\w'.cell? ⟨bb,0,none⟩=some u/\bb<w'.heap.size/\Own iW 1 3 w' W0 u (List.replicate p.aW.length 0))) rfl rfl (λv w1 w2 h hb=>let ⟨bb,u,h1,h2,h3,h4⟩:=h;⟨bb,u,h1,(hb.cell (p:=⟨bb,0,none⟩) h3).trans h2,aJ h3 hb.size,h4.below hb⟩) (λgq w' hb ho hd=>?_)) ?_
   ·have e30:Own iW 1 3 w' W0 (gq 30) (List.replicate p.aW.length 0):=hd.d 5;obtain⟨E,kc,s30⟩:=e30.isSlice;simp only[Ce]at s30
    rw[s30]at e30
    have e':=ah e30;clear e30;unfold iq;go_simp
    exact⟨e'.O.alloc _,(aj _ _).alloc (ay _) _⟩
   exact bT.nil;obtain⟨r25,r26,r27,r28,r29,r30,r31,_⟩:=hR;replace r30:Own iW 1 3 w2 W0 (f 30) (List.replicate p.aW.length 0):=r30;replace r31:∃bb u,(f 31)=.slice (some ⟨bb,0,none⟩) 1 1/\w2.cell? ⟨bb,0,none⟩=some u/\bb<w2.heap.size/\Own iW 1 3 w2 W0 u (List.replicate p.aW.length 0):=r31;simp only[kP,qJ,aG,aS,bU,dH,bY,cO,dA,dL,aQ,bG,bH,r25,r26,r27,r28,r29];clear r25 r26 r27 r28 r29;obtain⟨bb,u,r4,c4,l4,o4⟩:=r31;simp only[r4];clear r4 r30;have YS:=Jf.O.below hb2;have hBx2:=EP.O.below hb2 XH;refine jV _ rfl (.tmp 26) (.tmp 31) 35 23 rfl W0.heap.size _ 1 24 underlying35 SQ rfl (by decide) (by decide) V.on V.rows u rfl YS.on bb 1 rfl rfl (λj x hj=>by
    cases j with
    |zero=>simp only[oM,mZ]at hj;subst hj;exact c4
    |succ j=>simp at hj) (VJ _ (qP o4)) (by rw[YS.rlen];omega) (aU hbw.size hb2.size) ?_
   intro v7 w7 zk UU Um FY;have YU:=YS.push o4 UU zk;have G5:jB w7 b V:=hBx2.grown UU (λhe=>by
    rcases YS.on.qy hBx2.blk (by decide)with h|h
    ·rw[h]at he;cases he
    ·exact h he.symm)
   have Ru:Below W0 W0 w7:=(fD hbw hb2).trans FY;have Yr:=YU.keptBy (Az G5.blk 0 v7).2 G5.blk;have Kq:=G5.Zn v7;have ja8:=Ru.setCell (p:=b) hlb v7;obtain⟨Av,cv,hv7⟩:=zk.isSlice;simp only[aX,bP,dQ,fM]at hv7
   have jbe:=ah Yr;have O1:=ah Kq;have q1:=G5.cells.1;have qf:=G5.frozen 0;clear Yr Kq YU G5 zk UU Um FY YS hBx2 o4 c4;subst hv7;go_wp2_with fail;go_roundw
   case rel=>exact⟨k+1,_,by omega,by go_num,jbe.O,O1.O,ja8⟩
   case measure=>simp[dY];omega
  ·obtain rfl:k=p.dP.length:=by omega
   have hR1:=jhe.O.below hbw kX;obtain⟨b0,b1,b2,b3,b4,b5,b6⟩:=EP.O.cells;have hone:=Jf.O.one;go_wp2_with (refine dU (.tmp 2) (.tmp 34) dV V rfl hR1 rfl hone (λw9 dS jg=>?_))
   have wO:=Jf.O.keptBy jg hR1.blk;obtain⟨p0,p1,p2,p3,p4,p5,p6⟩:=dS.cells;have dw:Below w w w9:=hB.grown jg hB.size (λk hk=>by injection hk with hk;omega)
   clear b0 b1 b2 b3 b4 b5 b6;go_wp2_with fail;exact bV (v:=V.val) (by simp[results,results17,go_sem,SV.val,p0,p1,p2,p3,p4,p5,p6]) rfl ⟨V,rfl,wO.from_ hb0.size,dw⟩
end
section
def nN(r:aI×Int)(w:World)(e:Ending)(w':World):Prop:=∃V,e=.returned (.tuple #[V.val,r.2])/\dX w' w V r.1/\Below w w w'
theorem jJ{r:aI×Int}{c:Int}{w w':World}(h:r=(kF,c))(hb:Below w w w'):nN r w (.returned (.tuple #[dV.val,c])) w':=
 ⟨dV,by rw[h],by rw[h];exact dX.zero _ _,hb⟩
theorem F7{r:aI×Int}{s:aI}{V:SV}{w w':World}(h:r=(s,0))(ho:dX w' w V s)(hb:Below w w w'):nN r w (.returned (.tuple #[V.val,zI])) w':=
 ⟨V,by rw[h],by rw[h];exact ho,hb⟩
theorem tC{ops:Array Oper}{rest:List Oper}{o:Oper}{a:Act}{w:World}{Q:Exit->Act->World->Prop}(hgd:o.guard=none)(x y:Operand)(ho:o.op=.store 3 x y)(hn:o.dst=none)(b off:Nat)(u:Value)(q:Int)
  (hx:a.eval x=.pointer (some ⟨b,off,none⟩)) (hy:a.eval y=q) (hc:w.cell? ⟨b,off,none⟩=some u) (hf:w.frozen? ⟨b,off,none⟩=false)
  (h:∀w',w.setCell ⟨b,off,none⟩ (q)=w'->wpList prog ops Q rest a w'):wpList prog ops Q (o::rest) a w:=
 jo hgd λK hK=>by
  unfold Oper.wp;simp only[execOp,ho,hx,hy];go_simp
  exact hK _ _ (h _ rfl)
end
section
structure Step(ks:Nat->Prop)(w w':World):Prop where
 os:w'.os=w.os
 tape:w'.tape=w.tape
 output:w'.output=w.output
 size:w.heap.size<=w'.heap.size
 block:∀k,k<w.heap.size->¬ks k->w'.heap[k]?=w.heap[k]?
namespace Step
variable {ks ks':Nat→Prop} {a b c w w':World}
theorem refl(ks:Nat->Prop)(w:World):Step ks w w:=⟨rfl,rfl,rfl,ay _,λ_ _ _=>rfl⟩
theorem trans'(h:Step ks a b)(h':Step ks' b c)(hk:∀k,k<a.heap.size->ks' k->ks k):Step ks a c:=
 ⟨h'.os.trans h.os,h'.tape.trans h.tape,h'.output.trans h.output,aU h.size h'.size,λk hl hn=>(h'.block k (aJ hl h.size) (λhh=>hn (hk k hl hh))).trans (h.block k hl hn)⟩
theorem trans(h:Step ks a b)(h':Step ks b c):Step ks a c:=h.trans' h' λ_ _ h=>h
theorem mono(h:Step ks w w')(hk:∀k,ks k->ks' k):Step ks' w w':=⟨h.os,h.tape,h.output,h.size,λk hl hn=>h.block k hl λhh=>hn (hk k hh)⟩
theorem of_below(h:Below w w w'):Step ks w w':=⟨h.os,h.tape,h.output,h.size,λk hl _=>h.block k hl⟩
theorem nG{row:Option Nat}(h:w.grownBy w' row)(hk:∀k,row=some k->ks k):Step ks w w':=
 ⟨h.os,h.tape,h.output,h.size,λk hl hn=>h.block k hl (λhe=>hn (hk k he.symm))⟩
theorem below{B:Nat}(h:Step ks w w')(hk:∀k,ks k->B<=k)(hB:B<=w.heap.size):Below B w w':=
 ⟨h.os,h.tape,h.output,h.size,λk hl=>h.block k (aJ hl hB) λhh=>Nat.not_le_of_lt hl (hk k hh)⟩
theorem blk{g:Nat}{e:TypeId}{cur:List Value}(h:Step ks w w')(hb:iJ w g e cur)(hn:¬ks g):iJ w' g e cur:=(h.block g hb.lt hn).trans hb
theorem heap{g:Nat}{o:Obj}(h:Step ks w w')(hb:w.heap[g]?=some o)(hn:¬ks g):w'.heap[g]?=some o:=(h.block g (bI.1 hb).1 hn).trans hb
end Step
theorem Own.step{α:Type}{enc:α->List Value}{size:Nat}{e:TypeId}{w w':World}{aT:Nat}{v:Value}{l:List α}{ks:Nat->Prop}(h:Own enc size e w aT v l)(hs:Step ks w w')(hk:∀k,v.ownBlock=some k->¬ks k):Own enc size e w' aT v l:=by
 refine⟨h.1,?_⟩
 rcases h.2 with hn|⟨g,cap,cur,rfl,hbg,hg,rest⟩
 ·exact .inl hn
 ·exact .inr ⟨g,cap,cur,rfl,hbg,by rw[hs.block g (bI.1 hg).1 (hk g rfl)];exact hg,rest⟩
structure jdV(t:TypeId):Prop where
 h1:23≠t
 h2:3≠t
 h3:114≠t
 h4:106≠t
 h5:116≠t
 h6:118≠t
theorem Yi:jdV 40:=⟨by decide,by decide,by decide,by decide,by decide,by decide⟩
structure Bx(w:World)(aT b:Nat)(t:TypeId)(rest:List Value)(V:SV)(s:aI):Prop where
 box:iJ w b t (V.cells++rest)
 own:dX w aT V s
 ty:jdV t
namespace Bx
variable {w w':World} {aT b:Nat} {t:TypeId} {rest:List Value} {V:SV} {s:aI} {ks:Nat→Prop}
theorem of(h:jB w b V)(ho:dX w aT V s):Bx w aT b 40 [] V s:=⟨by rw[jd];exact h,ho,Yi⟩
theorem vw(h:Bx w aT b 40 [] V s):jB w b V:=by have:=h.box;rwa [jd]at this
theorem lt(h:Bx w aT b t rest V s):b<w.heap.size:=h.box.lt
theorem below(h:Bx w aT b t rest V s)(hb:Below w w w'):Bx w' aT b t rest V s:=⟨h.box.below hb h.lt,h.own.below hb,h.ty⟩
theorem drew(h:Bx w aT b t rest V s):Bx w.drew aT b t rest V s:=⟨h.box,h.own.drew,h.ty⟩
theorem from_(h:Bx w aT b t rest V s){base':Nat}(hb:base'<=aT):Bx w base' b t rest V s:=⟨h.box,h.own.from_ hb,h.ty⟩
theorem cells(h:Bx w aT b t rest V s):w.cell? b=some V.on/\w.cell? ⟨b,1,none⟩=some V.ak/\w.cell? ⟨b,2,none⟩=some V.aA/\w.cell? ⟨b,3,none⟩=some V.aF/\
  w.cell? ⟨b,4,none⟩=some V.jf/\w.cell? ⟨b,5,none⟩=some V.O/\w.cell? ⟨b,6,none⟩=some V.dB:=
 ⟨h.box.cell rfl,h.box.cell rfl,h.box.cell rfl,h.box.cell rfl,h.box.cell rfl,h.box.cell rfl,h.box.cell rfl⟩
theorem frozen(h:Bx w aT b t rest V s)(o:Nat):w.frozen? ⟨b,o,none⟩=false:=h.box.frozen o
theorem setCells(h:Bx w aT b t rest V s)(j:Nat)(u:Value)(V':SV)(hV:V'.cells++rest=(V.cells++rest).set j u):
  iJ (w.setCell ⟨b,j,none⟩ u) b t (V'.cells++rest)/\w.grownBy (w.setCell ⟨b,j,none⟩ u) (some b)/\dX (w.setCell ⟨b,j,none⟩ u) aT V s:=by
 obtain⟨h1,h2⟩:=Az h.box j u;exact⟨by rw[hV];exact h1,h2,h.own.keptBy h2 h.box h.ty.h1 h.ty.h2 h.ty.h3 h.ty.h4 h.ty.h5 h.ty.h6⟩
theorem set'{V':SV}{s':aI}(hb:iJ w b t (V.cells++rest))(ho:dX w aT V' s')(hT:jdV t)(j:Nat)(u:Value)(hV:V'.cells++rest=(V.cells++rest).set j u):
  Bx (w.setCell ⟨b,j,none⟩ u) aT b t rest V' s'/\w.grownBy (w.setCell ⟨b,j,none⟩ u) (some b):=by
 obtain⟨h1,h2⟩:=Az hb j u;exact⟨⟨by rw[hV];exact h1,ho.keptBy h2 hb hT.h1 hT.h2 hT.h3 hT.h4 hT.h5 hT.h6,hT⟩,h2⟩
theorem L9{w1 w2:World}(h:Bx w aT b t rest V s)(hb:Below w w w1){u:Value}{x:Order}(hu:Own mX 4 106 w1 aT u x.aH)(hf:∀g,u.ownBlock=some g->w.heap.size<=g)(hg:w1.grownBy w2 V.ak.ownBlock)
  {v':Value} (hv:Own Oj 2 114 w2 aT v' (AV s.ak V.aH++[(x.eH,u)])):
  iJ w2 b t (V.cells++rest)/\dX w2 aT {V with ak:=v',aH:=V.aH++[u]} {s with ak:=s.ak++[x]}:=by
 have h1:=h.below hb;exact⟨h1.box.grown hg (λhe=>by
  rcases h1.own.ak.qy h1.box h1.ty.h3 with h|h
  ·rw[h]at he;cases he
  ·exact h he.symm),h.own.L9 hb hu hf hg hv⟩
theorem jib(h:Bx w aT b t rest V s){u:Value}{l:List eX}(hu:Own iD 4 116 w aT u l):
  Bx (w.setCell ⟨b,2,none⟩ u) aT b t rest {V with aA:=u} {s with aA:=l}/\w.grownBy (w.setCell ⟨b,2,none⟩ u) (some b):=by
 obtain⟨h1,h2,h3⟩:=h.setCells 2 u {V with aA:=u} rfl
 exact⟨⟨h1,⟨h3.on,h3.rlen,h3.row,h3.ak,h3.llen,h3.aK,hu.kept h2 (hu.qy h.box h.ty.h5),h3.aF,h3.jf,h3.O,h3.dB,h3.apart,h3.yT⟩,h.ty⟩,h2⟩
theorem off(h:Bx w aT b t rest V s){g:Nat}{e:TypeId}{cur:List Value}(hb:iJ w g e cur)(hne:e≠t)(hg:w.grownBy w' (some g)):iJ w' b t (V.cells++rest):=
 h.box.grown hg (by intro he;injection he with he;exact hb.ne h.box hne he.symm)
end Bx
theorem jlC{w:World}{aT:Nat}{V:SV}{s:aI}(h:dX w aT V s){o k:Nat}(ho:o<s.ak.length)(hk:k<(s.aC o).aH.length){gl n c:Nat}(hv:V.aK o=.slice (some gl) n c):∃cur,iJ w gl 106 cur:=by
 obtain⟨g,c',cur,e1,_,e3,_⟩:=h.fG ho hk;rw[hv]at e1
 injection e1 with e1
 injection e1 with e1
 injection e1 with e1
 subst e1;exact⟨cur,e3⟩
section
variable {ops:Array Oper} {rest:List Oper} {o:Oper} {a:Act} {w:World} {Q:Exit→Act→World→Prop} {aT b:Nat} {t:TypeId} {cs:List Value} {V:SV} {s:aI}
theorem Iu(hgd:o.guard=none)(x y:Operand)(ho:o.op=.store 37 x y)(hn:o.dst=none)(A:Option Addr)(n c:Nat)(l:List eX)(hB:Bx w aT b t cs V s)(hx:a.eval x=.pointer (some ⟨b,2,none⟩))(hy:a.eval y=.slice A n c)
  (hu:Own iD 4 116 w aT (.slice A n c) l) (h:∀w',Bx w' aT b t cs {V with aA:=.slice A n c} {s with aA:=l}->Step (·=b) w w'->wpList prog ops Q rest a w'):wpList prog ops Q (o::rest) a w:=
 jo hgd λK hK=>by
  obtain⟨h1,h2⟩:=hB.jib hu;have h3:=h _ h1 (.nG h2 λk hk=>by injection hk with hk;exact hk.symm)
  have hc:=hB.cells.2.2.1;have hf:=hB.frozen 2;clear h hB hu h1 h2;unfold Oper.wp;simp only[execOp,ho,hx,hy];go_simp
  exact hK _ _ h3
theorem jfi{w:World}{gl o j:Nat}{a b c d:Value}(hj:j<4)(h0:w.cell? ⟨gl,o,none⟩=some a)(h1:w.cell? ⟨gl,o+1,none⟩=some b)(h2:w.cell? ⟨gl,o+2,none⟩=some c)(h3:w.cell? ⟨gl,o+3,none⟩=some d):∃u,w.cell? ⟨gl,o+j,none⟩=some u:=by
 rcases(show j=0\/j=1\/j=2\/j=3 by omega)with rfl|rfl|rfl|rfl
 ·exact⟨_,h0⟩
 ·exact⟨_,h1⟩
 ·exact⟨_,h2⟩
 ·exact⟨_,h3⟩
theorem Qx(hgd:o.guard=none)(x y:Operand)(ho:o.op=.store 36 x y)(hn:o.dst=none)(A:Option Addr)(n c:Nat){V':SV}{s':aI}(hk:iJ w b t (V.cells++cs))(hO:dX w aT V' s')(hT:jdV t)(hV:V'.cells++cs=(V.cells++cs).set 1 (.slice A n c))
  (hx:a.eval x=.pointer (some ⟨b,1,none⟩)) (hy:a.eval y=.slice A n c) (h:∀w',Bx w' aT b t cs V' s'->Step (·=b) w w'->wpList prog ops Q rest a w'):wpList prog ops Q (o::rest) a w:=
 jo hgd λK hK=>by
  obtain⟨h1,h2⟩:=Bx.set' hk hO hT 1 (.slice A n c) hV;have h3:=h _ h1 (.nG h2 λk hk=>by injection hk with hk;exact hk.symm)
  have hc:w.cell? ⟨b,1,none⟩=some V.ak:=hk.cell rfl;have hf:=hk.frozen 1;clear h hk hO h1 h2 hV;unfold Oper.wp;simp only[execOp,ho,hx,hy];go_simp
  exact hK _ _ h3
theorem Jm(hgd:o.guard=none)(x y:Operand)(ho:o.op=.store 37 x y)(hn:o.dst=none)(A:Option Addr)(n c:Nat){V':SV}{s':aI}(hk:iJ w b t (V.cells++cs))(hO:dX w aT V' s')(hT:jdV t)(hV:V'.cells++cs=(V.cells++cs).set 2 (.slice A n c))
  (hx:a.eval x=.pointer (some ⟨b,2,none⟩)) (hy:a.eval y=.slice A n c) (h:∀w',Bx w' aT b t cs V' s'->Step (·=b) w w'->wpList prog ops Q rest a w'):wpList prog ops Q (o::rest) a w:=
 jo hgd λK hK=>by
  obtain⟨h1,h2⟩:=Bx.set' hk hO hT 2 (.slice A n c) hV;have h3:=h _ h1 (.nG h2 λk hk=>by injection hk with hk;exact hk.symm)
  have hc:w.cell? ⟨b,2,none⟩=some V.aA:=hk.cell rfl;have hf:=hk.frozen 2;clear h hk hO h1 h2 hV;unfold Oper.wp;simp only[execOp,ho,hx,hy];go_simp
  exact hK _ _ h3
theorem MX(hgd:o.guard=none)(x y:Operand)(ho:o.op=.store 38 x y)(hn:o.dst=none)(A:Option Addr)(n c:Nat){V':SV}{s':aI}(hk:iJ w b t (V.cells++cs))(hO:dX w aT V' s')(hT:jdV t)(hV:V'.cells++cs=(V.cells++cs).set 3 (.slice A n c))
  (hx:a.eval x=.pointer (some ⟨b,3,none⟩)) (hy:a.eval y=.slice A n c) (h:∀w',Bx w' aT b t cs V' s'->Step (·=b) w w'->wpList prog ops Q rest a w'):wpList prog ops Q (o::rest) a w:=
 jo hgd λK hK=>by
  obtain⟨h1,h2⟩:=Bx.set' hk hO hT 3 (.slice A n c) hV;have h3:=h _ h1 (.nG h2 λk hk=>by injection hk with hk;exact hk.symm)
  have hc:w.cell? ⟨b,3,none⟩=some V.aF:=hk.cell rfl;have hf:=hk.frozen 3;clear h hk hO h1 h2 hV;unfold Oper.wp;simp only[execOp,ho,hx,hy];go_simp
  exact hK _ _ h3
theorem BO(hgd:o.guard=none)(x z:Operand)(ho:o.op=.store 3 x z)(hn:o.dst=none){i k j gl n c:Nat}{y:Line}{q:Int}(hB:Bx w aT b t cs V s)(hi:i<s.ak.length)(hk:k<(s.aC i).aH.length)
  (hv:V.aK i=.slice (some gl) n c) (hj:j<4) (hy:mX y=(mX (s.aK i k)).set j (q)) (hx:a.eval x=.pointer (some ⟨gl,k*4+j,none⟩)) (hz:a.eval z=q)
  (h:∀w',Bx w' aT b t cs V (s.mD i k y)->Step (·=gl) w w'->wpList prog ops Q rest a w'):wpList prog ops Q (o::rest) a w:=
 jo hgd λK hK=>by
  obtain⟨g',c',cur,e1,_,e3,f0,f1,f2,f3⟩:=hB.own.fG hi hk;rw[hv]at e1
  injection e1 with e1
  injection e1 with e1
  injection e1 with e1
  subst e1;obtain⟨h1,h2⟩:=hB.own.mD hi hk hv hj hy;have h3:=h _ ⟨hB.off e3 hB.ty.h4 h2,h1,hB.ty⟩ (.nG h2 λk hk=>by injection hk with hk;exact hk.symm)
  have hf:=e3.frozen (k*4+j);obtain⟨u,hc⟩:=jfi hj f0 f1 f2 f3;clear h hB h1 h2 f0 f1 f2 f3 e3 hy;unfold Oper.wp;simp only[execOp,ho,hx,hz];go_simp
  exact hK _ _ h3
end
end
end Wh
namespace Wh
open Go Go.RowKit Go.Proofs Tryz
section
namespace dX
variable {w w':World} {aT:Nat} {V:SV} {s:aI}
theorem jn2(h:dX w aT V s){o k:Nat}(ho:o<s.ak.length){gl n c:Nat}(hv:V.aK o=.slice (some gl) n c)(y:Line)(hg:w.grownBy w' (some gl))(hO:Own mX 4 106 w' aT (V.aK o) ((s.aC o).aH.set k y)):
  dX w' aT V (s.mD o k y):=by
 have hl:=h.aK o ho;have hob:(V.aK o).ownBlock=some gl:=by rw[hv];rfl
 have hg':w.grownBy w' (V.aK o).ownBlock:=by rw[hob];exact hg
 have lZ:(s.mD o k y).ak.length=s.ak.length:=by unfold aI.mD;simp
 have hor:∀o',(s.mD o k y).aC o'=if o'=o then {s.aC o with aH:=(s.aC o).aH.set k y}else s.aC o':=λo'=>Ub ho
 refine⟨h.on.kept hg' (h.on.apart hl (by decide)),h.rlen,λb hb=>(h.row b hb).kept hg' ((h.row b hb).apart hl (by decide)),?_,by rw[lZ];exact h.llen,λo' ho'=>?_,h.aA.kept hg' (h.aA.apart hl (by decide)),h.aF.kept hg' (h.aF.apart hl (by decide)),h.jf.kept hg' (h.jf.apart hl (by decide)),h.O.kept hg' (h.O.apart hl (by decide)),h.dB.kept hg' (h.dB.apart hl (by decide)),h.apart,h.yT⟩
 ·have e:AV (s.mD o k y).ak V.aH=AV s.ak V.aH:=jci rfl;rw[e];exact h.ak.kept hg' (h.ak.apart hl (by decide))
 ·rw[lZ]at ho'
  rw[hor];by_cases he:o'=o
  ·subst he;rw[aB rfl];exact hO
  ·rw[au he];exact(h.aK o' ho').kept hg' (MS h.yT (by rw[h.llen];exact ho') (by rw[h.llen];exact ho) he)
theorem JI(h:dX w aT V s)(hg:w.grownBy w' V.aF.ownBlock){v:Value}{l:List Move}(hv:Own oC 4 118 w' aT v l):dX w' aT {V with aF:=v} {s with aF:=l}:=h.Xa hg hv
end dX
section
variable {ops:Array Oper} {rest:List Oper} {o:Oper} {a:Act} {w:World} {Q:Exit→Act→World→Prop} {aT b:Nat} {t:TypeId} {cs:List Value} {V:SV} {s:aI}
theorem Hf(hgd:o.guard=none)(x z:Operand)(ho:o.op=.store 3 x z)(hn:o.dst=none){i go n c:Nat}{q:Int}(hB:Bx w aT b t cs V s)(hi:i<s.ak.length)
  (hv:V.ak=.slice (some go) n c) (hx:a.eval x=.pointer (some ⟨go,i*2,none⟩)) (hz:a.eval z=q)
  (h:∀w',Bx w' aT b t cs V {s with ak:=s.ak.set i {s.aC i with eH:=q}}->Step (·=go) w w'->wpList prog ops Q rest a w'):wpList prog ops Q (o::rest) a w:=
 jo hgd λK hK=>by
  obtain⟨g',c',cur,e1,_,e3,f0,f1⟩:=hB.own.bK hi;rw[hv]at e1
  injection e1 with e1
  injection e1 with e1
  injection e1 with e1
  subst e1;obtain⟨h1,h2⟩:=hB.own.setKind hi hv q;have h3:=h _ ⟨hB.off e3 hB.ty.h3 h2,h1,hB.ty⟩ (.nG h2 λk hk=>by injection hk with hk;exact hk.symm)
  have hf:=e3.frozen (i*2);clear h hB h1 h2 f1 e3;unfold Oper.wp;simp only[execOp,ho,hx,hz];go_simp
  exact hK _ _ h3
theorem Ir(hgd:o.guard=none)(x z:Operand)(ho:o.op=.store 3 x z)(hn:o.dst=none){i g gr n c:Nat}{q:Int}(hB:Bx w aT b t cs V s)(hi:i<s.on.length)(hg:g<(fO s.on i).length)
  (hv:V.row i=.slice (some gr) n c) (hx:a.eval x=.pointer (some ⟨gr,g,none⟩)) (hz:a.eval z=q)
  (h:∀w',Bx w' aT b t cs V {s with on:=setCell s.on i g q}->Step (·=gr) w w'->wpList prog ops Q rest a w'):wpList prog ops Q (o::rest) a w:=
 jo hgd λK hK=>by
  obtain⟨_,_,_,g',c',cur,_,_,_,_,e1,_,e3,f0⟩:=hB.own.QZ hi hg;rw[hv]at e1
  injection e1 with e1
  injection e1 with e1
  injection e1 with e1
  subst e1;obtain⟨h1,h2⟩:=hB.own.Zn hi hg hv q;have h3:=h _ ⟨hB.off e3 hB.ty.h2 h2,h1,hB.ty⟩ (.nG h2 λk hk=>by injection hk with hk;exact hk.symm)
  have hf:=e3.frozen g;clear h hB h1 h2 e3;unfold Oper.wp;simp only[execOp,ho,hx,hz];go_simp
  exact hK _ _ h3
theorem Y8(hgd:o.guard=none)(x z:Operand)(ho:o.op=.store 3 x z)(hn:o.dst=none){g gr n c:Nat}{q:Int}(hB:Bx w aT b t cs V s)(hg:g<s.O.length)
  (hv:V.O=.slice (some gr) n c) (hx:a.eval x=.pointer (some ⟨gr,g,none⟩)) (hz:a.eval z=q)
  (h:∀w',Bx w' aT b t cs V {s with O:=s.O.set g q}->Step (·=gr) w w'->wpList prog ops Q rest a w'):wpList prog ops Q (o::rest) a w:=
 jo hgd λK hK=>by
  obtain⟨g',c',cur,e1,_,e3,f0⟩:=dX.CU hB.own.O hg;rw[hv]at e1
  injection e1 with e1
  injection e1 with e1
  injection e1 with e1
  subst e1;obtain⟨h1,h2⟩:=hB.own.jnO hg hv q;have h3:=h _ ⟨hB.off e3 hB.ty.h2 h2,h1,hB.ty⟩ (.nG h2 λk hk=>by injection hk with hk;exact hk.symm)
  have hf:=e3.frozen g;clear h hB h1 h2 e3;unfold Oper.wp;simp only[execOp,ho,hx,hz];go_simp
  exact hK _ _ h3
theorem UA(hgd:o.guard=none)(x z:Operand)(ho:o.op=.store 3 x z)(hn:o.dst=none){g gr n c:Nat}{q:Int}(hB:Bx w aT b t cs V s)(hg:g<s.dB.length)
  (hv:V.dB=.slice (some gr) n c) (hx:a.eval x=.pointer (some ⟨gr,g,none⟩)) (hz:a.eval z=q)
  (h:∀w',Bx w' aT b t cs V {s with dB:=s.dB.set g q}->Step (·=gr) w w'->wpList prog ops Q rest a w'):wpList prog ops Q (o::rest) a w:=
 jo hgd λK hK=>by
  obtain⟨g',c',cur,e1,_,e3,f0⟩:=dX.CU hB.own.dB hg;rw[hv]at e1
  injection e1 with e1
  injection e1 with e1
  injection e1 with e1
  subst e1;obtain⟨h1,h2⟩:=hB.own.jic hg hv q;have h3:=h _ ⟨hB.off e3 hB.ty.h2 h2,h1,hB.ty⟩ (.nG h2 λk hk=>by injection hk with hk;exact hk.symm)
  have hf:=e3.frozen g;clear h hB h1 h2 e3;unfold Oper.wp;simp only[execOp,ho,hx,hz];go_simp
  exact hK _ _ h3
theorem jg1:(prog.info? 106).map (·.size)=some 4:=by kernel_rfl
theorem jiI(x:Line):∀u∈mX x,u.oneCell'=true:=by simp[mX,Value.oneCell']
theorem jbJ(hgd:o.guard=none)(x z:Operand)(ho:o.op=.store 106 x z)(hn:o.dst=none){i k gl n c:Nat}{y:Line}(hB:Bx w aT b t cs V s)(hi:i<s.ak.length)(hk:k<(s.aC i).aH.length)
  (hv:V.aK i=.slice (some gl) n c) (hx:a.eval x=.pointer (some ⟨gl,k*4,none⟩)) (hz:a.eval z=JQ y)
  (h:∀w',Bx w' aT b t cs V (s.mD i k y)->Step (·=gl) w w'->wpList prog ops Q rest a w'):wpList prog ops Q (o::rest) a w:=by
 obtain⟨g',c',cur,e1,_,e3,_⟩:=hB.own.fG hi hk;rw[hv]at e1
 injection e1 with e1 e2 e2'
 injection e1 with e1
 injection e1 with e1
 subst e1;have hO:=hB.own.aK i hi;rw[hv]at hO
 refine QO hgd x z _ ho hn hO (λ_=>rfl) hk y jg1 (jiI y) hx hz λw' h1 h2=>?_
 rw[<- hv]at h1
 exact h w' ⟨hB.off e3 hB.ty.h4 h2,hB.own.jn2 hi hv y h2 h1,hB.ty⟩ (.nG h2 λk hk=>by injection hk with hk;exact hk.symm)
end
end
end Wh
namespace Wh
open Go Go.RowKit Go.Shelf Go.Proofs Tryz
section
attribute [local go_sem] aV jF iY jI
def jnE(n:Nat):List Value:=[.int .u8 n]
end
section
def Yo(w:World)(aT:Nat)(v:Value)(x:Qw):Prop:=∃vl,v=.agg #[x.eH,x.a,x.b,x.c,x.n,vl]/\Sl mX w aT vl x.aH
theorem SC{w:World}{v:Value}{x:Qw}(h:Yo w w v x):∃Al cl,v=.agg #[x.eH,x.a,x.b,x.c,x.n,.slice Al x.aH.length cl]/\
  Hid (∀W,Below w w W->Yo W W.heap.size (.agg #[x.eH,x.a,x.b,x.c,x.n,.slice Al x.aH.length cl]) x)/\
  Hid (∀W,Below w w W->Sl mX W W.heap.size (.slice Al x.aH.length cl) x.aH)/\x.aH.length<=140737488355232:=by
 obtain⟨vl,rfl,hl⟩:=h;obtain⟨Al,cl,rfl,hll,hAl⟩:=hl;exact⟨Al,cl,rfl,ah (λW hW=>⟨_,rfl,Sl.up ⟨Al,cl,rfl,hll,hAl⟩ hW hW.size⟩),ah (λW hW=>Sl.up ⟨Al,cl,rfl,hll,hAl⟩ hW hW.size),hll⟩
end
section
attribute [local go_sem] aV jF iY jI
def eY(l:List Nat):ByteArray:=⟨(l.map UInt8.ofNat).toArray⟩
theorem jfv{w:World}{aT:Nat}{A:Option Addr}{n c:Nat}{bs:List Nat}(h:Own jnE 1 5 w aT (.slice A n c) bs)(hlt:∀x∈bs,x<256)(wU:0<bs.length):
  (convert 46 9 (.slice A n c)).run prog w=.ok (.string (eY bs)) w:=by
 obtain⟨g,c',hv,_,_⟩:=h.some_ wU;injection hv with e1 e2 e3
 subst e1 e2 e3;have hc:=λj (hj:j<bs.length)=>h.at (λ_=>rfl) (i:=j) hj
 have key:=run_convert_bytes_back (P:=prog) w 46 9 5 g c (bs.map UInt8.ofNat) underlying46 (by kernel_rfl) (by kernel_rfl) (λj hj=>by
  have hj':j<bs.length:=by simpa using hj
  obtain⟨g',c2,cur,e1,_,_,h4⟩:=hc j hj';injection e1 with e1
  injection e1 with e1
  injection e1 with e1
  subst e1;have h5:=h4 0 _ rfl;rw[gy];have e:((bs.map UInt8.ofNat)[j].toNat:Int)=(bs[j]:Int):=by
   rw[AP];have:=hlt _ (dh hj');simp
   omega
  rw[e];simpa using h5)
 rw[gX]at key
 exact key
end
section
attribute [local go_sem] aV jF iY jI
theorem pK(l:List Nat):(eY l).size=l.length:=by simp[eY,ByteArray.size]
theorem tN(l:List Nat):(eY l).toList=l.map UInt8.ofNat:=by
 rw[ByteArray.toList_eq];simp[eY]
end
section
attribute [local go_sem] aV
section
variable {p:dG} {s:aI} {b g n:Int}
theorem UG(h:aO p s≠0):rD p s b g n=(kF,aO p s):=by unfold rD;rw[aB h]
theorem CY(h:aO p s=0)(h2:(lK p b&&iO p g&&dM n 1 200)=false):rD p s b g n=(kF,3):=by
 unfold rD;rw[au (λhn=>hn h),h2];rfl
theorem Sr(h:aO p s=0)(h2:(lK p b&&iO p g&&dM n 1 200)=true)(h3:free p s b<n*aZ p.aW g.toNat):rD p s b g n=(kF,5):=by
 unfold rD;rw[au (λhn=>hn h),h2,au (by simp),aB h3]
theorem Js(h:aO p s=0)(h2:(lK p b&&iO p g&&dM n 1 200)=true)(h3:n*aZ p.aW g.toNat<=free p s b)(h4:200<cell s.on b.toNat g.toNat+iC s b g+n\/1048576<aZ s.jf g.toNat+n):rD p s b g n=(kF,2):=by
 unfold rD;rw[au (λhn=>hn h),h2,au (by simp),au (by omega),aB h4]
theorem WJ(h:aO p s=0)(h2:(lK p b&&iO p g&&dM n 1 200)=true)(h3:n*aZ p.aW g.toNat<=free p s b)(h4:cell s.on b.toNat g.toNat+iC s b g+n<=200)(h5:aZ s.jf g.toNat+n<=1048576):
  rD p s b g n=({s with on:=setCell s.on b.toNat g.toNat (cell s.on b.toNat g.toNat+n),jf:=s.jf.set g.toNat (aZ s.jf g.toNat+n)},0):=by
 unfold rD;rw[au (λhn=>hn h),h2,au (by simp),au (by omega),au (by omega)]
end
theorem jb4(w:World)(v vs:Value)(p:dG)(s:aI)(b g n:Int)(hp:kK w w v p)(hv:kG w w vs s):
  Calls prog 61 #[v,vs,b,g,n] w (nN (rD p s b g n) w):=by
 obtain⟨Ab,cb,As,cs,rfl,hP',hBn,hSz,hlb,hls⟩:=o9 hp;obtain⟨A0,c0,A1,c1,A2,c2,A3,c3,A4,c4,A5,c5,A6,c6,rfl,hV,hN,hO,hH,hM,hI,hU,hX,hl0,hl1,hl2,hl3,hl4,hl5,Jb⟩:=lY hv;go_enter func61,ntmps61
 go_wp2_with fail;obtain⟨W0,hW0,hb0,kX,um,hsE,hK,hR⟩:=yS w p s Ab cb As cs A0 c0 A1 c1 A2 c2 A3 c3 A4 c4 A5 c5 A6 c6;rw[hW0];clear hW0;obtain⟨⟨y0,y1⟩,x0,x1,x2,x3,x4,x5,x6,fB,fC⟩:=hK.O W0 (aj W0 W0);go_wp2_with fail;clear y0 y1 x0 x1 x2 x3 x4 x5 x6 fB fC;refine(Nh _ _ _ p s (hP'.O _ hb0) (hV.O _ hb0)).mono ?_
 rintro e W1 ⟨rfl,h1⟩;have hB1:=fD hb0 h1;obtain⟨⟨y0,y1⟩,x0,x1,x2,x3,x4,x5,x6,fB,fC⟩:=hK.O W1 (h1);by_cases hc:aO p s=0
 ·have hc':=ah hc;have hsn:=ah (gB.1 hc).1;rw[hc];clear hc;go_wp2_with fail;clear y0 y1 x0 x1 x2 x3 x4 x5 x6 fB fC;refine(KU _ _ p b g (hP'.O _ hB1)).mono ?_
  rintro e W2 ⟨rfl,h2⟩;have h02:=fD h1 h2;have hB2:=fD hb0 h02;obtain⟨⟨y0,y1⟩,x0,x1,x2,x3,x4,x5,x6,fB,fC⟩:=hK.O W2 (h02);cases hth:(lK p b&&iO p g)
  ·have dw:=ah (CY (n:=n) hc'.O (by rw[hth];rfl))
   clear hth;have fH:=hR.O _ h02;go_wp2_with (refine dU (.tmp 10) (.tmp 31) dV dV rfl fH rfl rfl (λw9 dS jg=>?_))
   have eF:=Below.gV hB2 jg;go_wp2_with fail;exact jl results61 dS rfl rfl (jJ dw.O eF)
  ·have jaZ:=ah hth;rw[dF]at hth
   have hbb:=ah (zA.1 hth.1);have hgg:=ah (wI.1 hth.2);clear hth;by_cases hn1:1<=n
   ·by_cases hn2:n<=200
    ·have kQ:=ah (show(lK p b&&iO p g&&dM n 1 200)=true by rw[jaZ.O,dZ.2 ⟨hn1,hn2⟩];rfl)
     have hb1:0<=b:=hbb.O.1;have hb2:b<(s.on.length:Int):=by rw[hsn.O.sO];exact hbb.O.2
     have hg1:0<=g:=hgg.O.1;have hg2:g<(p.aW.length:Int):=hgg.O.2;have hbl:b.toNat<s.on.length:=by omega
     have hgs:g.toNat<p.aW.length:=by omega
     have hgl:g.toNat<(fO s.on b.toNat).length:=by rw[hsn.O.rowLen (by have:=hbb.O;omega)];omega
     have hgr:g<((fO s.on b.toNat).length:Int):=by omega
     have hgi:g<(s.jf.length:Int):=by rw[hsn.O.jf.1];omega
     obtain⟨z1,z2⟩:=Ac hsn.O.plan hgs;have hm1:=P8 (a:=n) (b:=aZ p.aW g.toNat) (by omega) ⟨z1,z2⟩
     have hw1:IntKind.i64.wrap (n*aZ p.aW g.toNat)=n*aZ p.aW g.toNat:=aP _ (by omega)
     obtain⟨os0,ls0,rs0⟩:=(hSz.O W2 hB2).at_.int hgs;have q0:=λo d os=>cZ (w:=W2) (b:=w.heap.size) fC o d os
     have q1:=λo d os=>cZ (w:=W2) (b:=w.heap.size+1) fB o d os
     have q2:=λo d os=>cZ (w:=W2) (b:=iH As) ls0 o d os
     have hP2:=ah (λd os=>hP'.O _ (hB2.trans ((kH W2 d os).mono hB2.size)))
     have hV2:=ah (λd os=>hV.O _ (hB2.trans ((kH W2 d os).mono hB2.size)))
     by_cases hfu:free p s b<n*aZ p.aW g.toNat
     ·have dw:=ah (Sr (n:=n) hc'.O kQ.O hfu);go_wp2_with fail;refine dO (by kernel_rfl) (by kernel_rfl) ?_
      repeat(go_big_quiet_step ((go_at_call 92;refine fV (jif _ _ _ p s b (hP2.O _ _) (hV2.O _ _) hsn.O hbb.O))))
      refine wpQuiet_nil ?_
      intro W3 hw';have hb3:=dN hw';clear hw';have h03:=fD h02 hb3;have hB3:=fD hb0 h03;have fH:=hR.O _ h03;go_wp2_with (refine dU (.tmp 10) (.tmp 45) dV dV rfl fH rfl rfl (λw9 dS jg=>?_))
      have eF:=Below.gV hB3 jg;go_wp2_with fail;exact jl results61 dS rfl rfl (jJ dw.O eF)
     ·have je1:n*aZ p.aW g.toNat<=free p s b:=by omega
      go_wp2_with fail;refine dO (by kernel_rfl) (by kernel_rfl) ?_
      repeat(go_big_quiet_step ((go_at_call 92;refine fV (jif _ _ _ p s b (hP2.O _ _) (hV2.O _ _) hsn.O hbb.O))))
      refine wpQuiet_nil ?_
      intro W3 hw';have hb3:=dN hw';clear hw';have h03:=fD h02 hb3;have hB3:=fD hb0 h03;clear q0 q1 q2 hP2 hV2 hw1 rs0 os0 ls0;clear y0 y1 x0 x1 x2 x3 x4 x5 x6 fB fC;obtain⟨⟨y0,y1⟩,x0,x1,x2,x3,x4,x5,x6,fB,fC⟩:=hK.O W3 (h03);obtain⟨Ar,cr,or0,UN,Zp,wK⟩:=(hN.O W3 hB3).row hbl;obtain⟨or1,lr1,RZ⟩:=wK.at_.int hgl;obtain⟨oi,li,ri⟩:=(hI.O W3 hB3).at_.int (i:=g.toNat) (by omega)
      have hcl:aZ (fO s.on b.toNat) g.toNat=cell s.on b.toNat g.toNat:=rfl;rw[hcl]at RZ
      clear hcl;have t1:=hsn.O.cell (b:=b.toNat) (g:=g.toNat) (by have:=hbb.O;omega) hgs
      have t2:=yh hsn.O b g;have t3:=hsn.O.jf.2 hgs;have hw1:IntKind.i64.wrap (cell s.on b.toNat g.toNat+iC s b g)=cell s.on b.toNat g.toNat+iC s b g:=aP _ (by omega)
      have hw2:IntKind.i64.wrap (cell s.on b.toNat g.toNat+iC s b g+n)=cell s.on b.toNat g.toNat+iC s b g+n:=aP _ (by omega)
      have hw3:IntKind.i64.wrap (aZ s.jf g.toNat+n)=aZ s.jf g.toNat+n:=aP _ (by omega)
      have q1:=λo d os=>cZ (w:=W3) (b:=w.heap.size+1) fB o d os
      have q2:=λo d os=>cZ (w:=W3) (b:=iH A0) UN o d os
      have q3:=λo d os=>cZ (w:=W3) (b:=iH Ar) lr1 o d os
      have hV2:=ah (λd os=>hV.O _ (hB3.trans ((kH W3 d os).mono hB3.size)))
      by_cases hm:200<cell s.on b.toNat g.toNat+iC s b g+n
      ·have dw:=ah (Js (n:=n) hc'.O kQ.O je1 (.inl hm));go_wp2_with fail;refine dO (by kernel_rfl) (by kernel_rfl) ?_
       repeat(go_big_quiet_step ((go_at_call 93;refine fV (VF _ _ p s b g (hV2.O _ _) hsn.O))))
       refine wpQuiet_nil ?_
       intro W4 hw';have hb4:=dN hw';clear hw';have h04:=fD h03 hb4;have hB4:=fD hb0 h04;have fH:=hR.O _ h04;go_wp2_with (refine dU (.tmp 10) (.tmp 71) dV dV rfl fH rfl rfl (λw9 dS jg=>?_))
       have eF:=Below.gV hB4 jg;go_wp2_with fail;exact jl results61 dS rfl rfl (jJ dw.O eF)
      ·have hm':cell s.on b.toNat g.toNat+iC s b g+n<=200:=by omega
       go_wp2_with fail;refine dO (by kernel_rfl) (by kernel_rfl) ?_
       repeat(go_big_quiet_step ((go_at_call 93;refine fV (VF _ _ p s b g (hV2.O _ _) hsn.O))))
       refine wpQuiet_nil ?_
       intro W4 hw';have hb4:=dN hw';clear hw';have h04:=fD h03 hb4;have hB4:=fD hb0 h04;clear q1 q2 q3 hV2 hw1 hw2;clear y0 y1 x0 x1 x2 x3 x4 x5 x6 fB fC;obtain⟨⟨y0,y1⟩,x0,x1,x2,x3,x4,x5,x6,fB,fC⟩:=hK.O W4 (h04);have ri4:=(hb4.cell (p:=⟨iH A4,l9 A4+g.toNat,none⟩) li).trans ri;clear Zp RZ ri hm;by_cases hi:1048576<aZ s.jf g.toNat+n
       ·have dw:=ah (Js (n:=n) hc'.O kQ.O je1 (.inr hi));have fH:=hR.O _ h04;go_wp2_with (refine dU (.tmp 10) (.tmp 71) dV dV rfl fH rfl rfl (λw9 dS jg=>?_))
        have eF:=Below.gV hB4 jg;go_wp2_with fail;exact jl results61 dS rfl rfl (jJ dw.O eF)
       ·have hi':aZ s.jf g.toNat+n<=1048576:=by omega
        have dw:=ah (WJ (n:=n) hc'.O kQ.O je1 hm' hi');go_wp2_with fail;clear y0 y1 x0 x1 x2 x3 x4 x5 x6 fB fC;clear ri4 hi;refine(jbV _ _ p s (hV.O _ hB4) hsn.O).mono ?_
        rintro e W5 ⟨_,rfl,⟨V5,rfl,DC⟩,h5⟩;have rU:=(DC).one;have zV:=Dj (W5);go_wp2_with (refine dU (.tmp 13) (.tmp 73) dV V5 rfl zV rfl rU (λw6 nK Jv=>?_);refine bD ?_)
        unfold Hid;have vG:=xg Jv;have x9:=nK.lt;clear rU zV Jv;have ho6:=DC.below vG;have h06:=h04.trans ((fD h5 vG).mono h04.size);have hB6:=fD hb0 h06;have jeZ:w.heap.size<=W4.heap.size:=hB4.size;have jcW:W0.heap.size<=W4.heap.size:=h04.size;obtain⟨go,co,RS,gr,cr2,cur,e1,f1,f2,f3,e2,f4,f5,f6⟩:=ho6.QZ hbl hgl;have hx0:=nK.cells.1;rw[e1]at hx0
        have hf:=f5.frozen g.toNat;have hst:=ho6.Zn hbl hgl e2 (cell s.on b.toNat g.toNat+n);have Ti:=nK.off hst.2 f5 (by decide)
        have hw4:IntKind.i64.wrap (cell s.on b.toNat g.toNat+n)=cell s.on b.toNat g.toNat+n:=aP _ (by omega)
        have h07:=h06.setCell (p:=⟨gr,g.toNat,none⟩) (aU jcW f4) (.int .i64 (cell s.on b.toNat g.toNat+n));have hB7:=hB6.setCell (p:=⟨gr,g.toNat,none⟩) (aU jeZ f4) (.int .i64 (cell s.on b.toNat g.toNat+n));go_wp2_with (refine tC rfl (.tmp 84) (.tmp 83) rfl rfl gr g.toNat _ _ rfl rfl f6 hf (λw7 hw7=>?_);refine bD ?_)
        unfold Hid;rw[hw7]at hst Ti h07 hB7
        clear hw7 hw4 hx0 hf f2 f3 f5 f6 e1 e2 ho6 nK;have I9:dX w7 W4 V5 {s with on:=setCell s.on b.toNat g.toNat (cell s.on b.toNat g.toNat+n)}:=hst.1
        have jjE:g.toNat<s.jf.length:=by omega
        obtain⟨gi,ci,jvJ,e3,k1,k2,k3⟩:=dX.CU (l:=s.jf) I9.jf jjE;have hx4:=Ti.cells.2.2.2.2.1;rw[e3]at hx4
        have hfi:=k2.frozen g.toNat;have hst2:=I9.jia jjE e3 (aZ s.jf g.toNat+n);have IL:=Ti.off hst2.2 k2 (by decide)
        have BG:=h07.setCell (p:=⟨gi,g.toNat,none⟩) (aU jcW k1) (.int .i64 (aZ s.jf g.toNat+n));have NJ:=hB7.setCell (p:=⟨gi,g.toNat,none⟩) (aU jeZ k1) (.int .i64 (aZ s.jf g.toNat+n));go_wp2_with (refine tC rfl (.tmp 92) (.tmp 91) rfl rfl gi g.toNat _ _ rfl rfl k3 hfi (λw8 hw8=>?_);refine bD ?_)
        unfold Hid;rw[hw8]at hst2 IL BG NJ
        clear hw8 hx4 hfi k2 k3 e3;have ho8:dX w8 W4 V5 {s with on:=setCell s.on b.toNat g.toNat (cell s.on b.toNat g.toNat+n),jf:=s.jf.set g.toNat (aZ s.jf g.toNat+n)}:=hst2.1
        have jjo:=ah ho8;have je7:=ah IL;clear hst hst2 I9 ho8 Ti IL DC;have fH:=hR.O _ BG;obtain⟨b0,b1,b2,b3,b4,b5,b6⟩:=jB.cells je7.O;have lT:=dX.one jjo.O;go_wp2_with (refine dU (.tmp 10) (.tmp 93) dV V5 rfl fH rfl lT (λw9 dS jg=>?_))
        have wO:=dX.keptBy jjo.O jg fH;have eF:=Below.gV NJ jg;clear b0 b1 b2 b3 b4 b5 b6;go_wp2_with fail;exact jl results61 dS rfl rfl (F7 dw.O (wO.from_ jeZ) eF)
    ·have dw:=ah (CY (n:=n) hc'.O (by rw[jaZ.O,show dM n 1 200=false from mY.2 (by omega)];rfl))
     have fH:=hR.O _ h02;go_wp2_with (refine dU (.tmp 10) (.tmp 31) dV dV rfl fH rfl rfl (λw9 dS jg=>?_))
     have eF:=Below.gV hB2 jg;go_wp2_with fail;exact jl results61 dS rfl rfl (jJ dw.O eF)
   ·have dw:=ah (CY (n:=n) hc'.O (by rw[jaZ.O,show dM n 1 200=false from mY.2 (by omega)];rfl))
    have fH:=hR.O _ h02;go_wp2_with (refine dU (.tmp 10) (.tmp 31) dV dV rfl fH rfl rfl (λw9 dS jg=>?_))
    have eF:=Below.gV hB2 jg;go_wp2_with fail;exact jl results61 dS rfl rfl (jJ dw.O eF)
 ·have hne:(aO p s !=0)=true:=by simpa using hc
  have dw:=ah (UG (b:=b) (g:=g) (n:=n) hc);clear hc;have fH:=hR.O _ h1;go_wp2_with (refine dU (.tmp 10) (.tmp 19) dV dV rfl fH rfl rfl (λw9 dS jg=>?_))
  have eF:=Below.gV hB1 jg;go_wp2_with fail;exact jl results61 dS rfl rfl (jJ dw.O eF)
end
end Wh
