/- Texts of the claim, joined. -/
import Derived.Test.YtfhfkijmebhgmaaGreatK13
set_option maxHeartbeats 20000000
set_option maxRecDepth 100000
namespace Wh
open Go Go.RowKit
def jiw(l:List Oper)(n:Nat):Bool:=
 (decide (n=l.length)||(decide (n<l.length)&&Region.sinkB .any l.toArray n&&Region.chainB .any l.toArray n))&&Region.seqB .any l.toArray (l.length - n) n (KU l.length n)&&
 decide ((l.take n).filterMap (·.dst)).Nodup&&(List.range n).all λi=>((l[i]?).map λo=>o.after.all λe=>!Region.binds .any e||decide (e.on<i)).getD true
section
variable {P:Program} {l:List Oper} {n:Nat} {R:Nat→(Nat→Value)→World→Prop} {Q:Exit→Act→World→Prop} {a:Act} {w:World}
def jfi(P:Program)(l:List Oper)(n:Nat)(R:Nat->(Nat->Value)->World->Prop)(Q:Exit->Act->World->Prop)(a:Act)(w:World)(i:Nat)(o:Oper):Prop:=
 ∀f w',Below w.heap.size w w'->Iz n R f w' o->
  (Region.wanted o (yielded l.toArray (kG a (l.take n) f).tmps)=true/\o.wp P (kG a (l.take n) f) w' (λa' w''=>∃v,a'=(kG a (l.take n) f).put o.dst v/\R i (qI f o.dst v) w''/\Below w'.heap.size w' w'') Q)\/
  (Region.wanted o (yielded l.toArray (kG a (l.take n) f).tmps)=false/\R i (qI f o.dst undef) w')
theorem jc6(hle:n<=l.length)(NU:∀dJ,HeadInv .any l.toArray n dJ->∀i,i<n->dJ.getD i true=false->∀t,n<=t->t ∉ Region.ready .any l.toArray dJ)(hseq:Region.seqB .any l.toArray (l.length - n) n (KU l.length n)=true)
  (hnd:((l.take n).filterMap (·.dst)).Nodup) (yw:∀i o,i<n->l[i]?=some o->∀e∈o.after,Region.binds .any e=true->e.on<i)
  (hst:∀i g w1 w2,R i g w1->Below w1.heap.size w1 w2->R i g w2) (yg:∀i g g' w,(∀j o d,JD l j i->l[j]?=some o->o.dst=some d->g d=g' d)->R i g w->R i g' w) (AV:∀i o,i<n->l[i]?=some o->jfi P l n R Q a w i o)
  (hend:∀f w',Below w.heap.size w w'->(∀i,i<n->R i f w')->wpList P l.toArray Q (l.drop n) (kG a (l.take n) f) w'):
  ∀(k:Nat) (dJ:Array Bool) (f:Nat->Value) (w':World),HeadInv .any l.toArray n dJ->Sj dJ n=k->Below w.heap.size w w'->(∀i,i<n->dJ.getD i false=true->R i f w')->
   wpAny P .any l.toArray Q (k+(l.length - n)) dJ (kG a (l.take n) f) w'
 |0,dJ,f,w',inv,hk,hb,hR=>by
  have hsz:dJ.size=l.length:=by rw[inv.size];simp
  have he:dJ=KU l.length n:=by
   apply nO;intro i;unfold KU;rw[sH]
   simp only[tK];by_cases hi:i<n
   ·rw[aB hi];have h1:=D9 hk hi;have h2:i<dJ.size:=by omega
    simp[hi,h2,Array.getD]at h1 ⊢
    exact h1
   ·rw[ay hi];by_cases hl:i<l.length
    ·have h1:=inv.tail i (by omega) (by simpa using hl)
     have h2:i<dJ.size:=by omega
     have h3:i - n<l.length - n:=by omega
     simp[h2,h3,Array.getD]at h1 ⊢
     exact h1
    ·rw[fZ (by omega),fZ (by simp;omega)]
  have hd:l.length - n=(l.drop n).length:=by simp
  rw[eY,hd];refine wpAny_of_seq (l.drop n) n dJ _ w' (λj=>by simp) (by rw[he,<- hd];exact hseq) (hend f w' hb λi hin=>hR i hin ?_)
  have h1:=D9 hk hin;have h2:i<dJ.size:=by omega
  simp[h2,Array.getD]at h1 ⊢
  exact h1
 |k+1,dJ,f,w',inv,hk,hb,hR=>by
  have hsz:dJ.size=l.length:=by rw[inv.size];simp
  obtain⟨i0,hi0,hu0⟩:=UL (show 0<Sj dJ n by omega)
  have hne:∀i,i<n->dJ.getD i true=false->Region.ready .any l.toArray dJ≠[]:=by
   intro i;induction i using Nat.strongRecOn with
   |_ i ih=>
    intro hin hu;have hil:i<l.length:=by omega
    by_cases kE:∀e∈(l[i]).after,Region.binds .any e=true->dJ.getD e.on false=true
    ·have:i∈Region.ready .any l.toArray dJ:=nR.2 ⟨hu,l[i],by simp[hil],kE⟩
     intro h0;rw[h0]at this
     cases this
    ·simp only[tJ]at kE
     obtain⟨e,he,hbd,hno⟩:=kE;have hlt:=yw i l[i] hin (by simp[hil]) e he hbd
     exact ih e.on hlt (by omega) (getD_in (by omega) (by simpa using hno))
  rw[show k+1+(l.length - n)=(k+(l.length - n))+1 by omega]
  refine⟨λh0=>absurd h0 (hne i0 hi0 hu0),λi hi=>?_⟩
  have hin:i<n:=by
   rcases rO i n with h|h
   ·exact h
   ·exact absurd hi (NU dJ inv i0 hi0 hu0 i h)
  obtain⟨hu,o,ho,kE⟩:=nR.1 hi;have ho':l[i]?=some o:=by simpa using ho
  have h1:=AV i o hin ho' f w' hb λe he hbd hen=>hR e.on hen (kE e he hbd)
  have hcont:∀v w'',R i (qI f o.dst v) w''->Below w'.heap.size w' w''->wpAny P .any l.toArray Q (k+(l.length - n)) (dJ.setIfInBounds i true) ((kG a (l.take n) f).put o.dst v) w'':=by
   intro v w'' hv hbw;have hcount:Sj (dJ.setIfInBounds i true) n=k:=by
    have:=UK hu n;rw[aB hin]at this
    omega
   have hb2:=hb.trans (hbw.mono hb.size);have MG:∀j k,JD l j k->k<n->dJ.getD k false=true->j<n/\dJ.getD j false=true:=by
    intro j k h;induction h with
    |self=>exact λh1 h2=>⟨h1,h2⟩
    |dP ho he hbd hon _ ih=>
     intro h1 h2;subst hon;have:=yw _ _ h1 ho _ he hbd;exact ih (by omega) (inv.closed _ _ (by simpa using ho) h2 _ he hbd)
   have bK:(kG a (l.take n) f).put o.dst v=kG a (l.take n) (qI f o.dst v):=by
    cases hdst:o.dst with
    |none=>rfl
    |some d0=>
     unfold kG Act.put qI;simp only;rw[Pj (Eo ho' hin hdst)]
   rw[bK];refine jc6 hle NU hseq hnd yw hst yg AV hend k _ (qI f o.dst v) w'' (inv.set hi hin) hcount hb2 λj hjn hl=>?_
   by_cases hij:i=j
   ·subst hij;exact hv
   ·rw[kT false hij]at hl
    refine yg j f _ _ (λj' oj d haj hoj hd=>?_) (hst _ _ _ _ (hR j hjn hl) hbw)
    obtain⟨jd2,Wu⟩:=MG _ _ haj hjn hl;cases hdst:o.dst with
    |none=>rfl
    |some d0=>
     have hne:i≠j':=λe=>by
      subst e;rw[getD_both hu]at Wu
      cases Wu
     have hdd:=jat hnd ho' hin hdst hoj jd2 hd hne;unfold qI upd;simp only;rw[ay (λe=>hdd e.symm)]
  unfold wpOp;simp only[ho];rcases h1 with⟨hw,h1⟩|⟨hw,h1⟩
  ·rw[aB hw];refine .inl (oD ?_ h1)
   rintro a' w'' ⟨v,rfl,hv,hbw⟩;exact hcont v w'' hv hbw
  ·rw[ay (by simp[hw])]
   exact hcont undef w' h1 (aj _ _)
theorem jmy(n:Nat)(R:Nat->(Nat->Value)->World->Prop)(hB:jiw l n=true)(hst:∀i g w1 w2,R i g w1->Below w1.heap.size w1 w2->R i g w2)
  (yg:∀i g g' w,(∀j o d,JD l j i->l[j]?=some o->o.dst=some d->g d=g' d)->R i g w->R i g' w) (AV:∀i o,i<n->l[i]?=some o->jfi P l n R Q a w i o)
  (hend:∀f w',Below w.heap.size w w'->(∀i,i<n->R i f w')->wpList P l.toArray Q (l.drop n) (kG a (l.take n) f) w'):wpAny P .any l.toArray Q l.toArray.size (Array.replicate l.toArray.size false) a w.drew:=by
 simp only[jiw,bG,fV,bD,aX]at hB
 obtain⟨⟨⟨hw,hseq⟩,hnd⟩,yw⟩:=hB;have hle:n<=l.length:=by rcases hw with h|h<;>omega
 have hat:∀i o,i<n->l[i]?=some o->o∈l.take n:=λi o hin hi=>by
  rw[pW];exact⟨i,by rw[gJ];simp[hin,hi]⟩
 have H:=jc6 (P:=P) (Q:=Q) (a:=a) (w:=w) hle ?_ hseq hnd ?_ hst yg AV hend n (Array.replicate l.toArray.size false) (λd=>a.tmps.getD d undef) w.drew
  ⟨by simp,λj oj _ hl=>(by rw[getD_replicate_false]at hl;cases hl),λt _ ht=>getD_in (by simpa using ht) (getD_replicate_false _ _)⟩ ?_ (aj _ _).drew (λi _ hl=>by rw[getD_replicate_false]at hl;cases hl)
 ·have e:kG a (l.take n) (λd=>a.tmps.getD d undef)=a:=by
   unfold kG;rw[MJ]
  rw[e]at H
  have hs:n+(l.length - n)=l.toArray.size:=by simp;omega
  rw[hs]at H
  exact H
 ·intro dJ inv i hin hu t ht hr;rcases hw with h|⟨⟨h1,h2⟩,h3⟩
  ·obtain⟨_,o,ho,_⟩:=nR.1 hr;have:=(bJ.1 ho).1
   simp at this
   omega
  ·exact tail_waits h2 h3 (by simpa using h1) inv (n - i) i rfl hin hu t ht hr
 ·intro i o hin hi e he hbd;have:=yw i (gZ.2 hin);rw[hi]at this
  simp only[iH,jl,iU,fV,kS,bD]at this
  rcases this e he with h|h
  ·rw[h]at hbd;cases hbd
  ·exact h
 ·have key:∀m,m<=l.length->Sj (Array.replicate l.toArray.size false) m=m:=by
   intro m;induction m with
   |zero=>intro _;rfl
   |succ m ih=>
    intro hm;have:=ih (by omega)
    unfold Sj at this ⊢
    have hml:m<l.length:=by omega
    rw[lJ,pG,this];simp[hml]
  exact key n hle
def jbn(l:List Oper)(o:Oper)(g:Nat->Value):Prop:=match o.guard with|none=>True|some (k,b)=>∃d,(l[k]?.bind (·.dst))=some d/\g d=.bool b
def jcc(l:List Oper)(o:Oper)(g:Nat->Value):Prop:=match o.guard with|none=>False|some (k,b)=>∃d,(l[k]?.bind (·.dst))=some d/\g d=.bool (!b)
theorem jcZ{t:Array Value}{d:Nat}{b:Bool}(h:t.getD d undef=.bool b):t[d]?=some (.bool b):=by
 rw[ji]at h
 cases hc:t[d]? with
 |none=>rw[hc]at h;simp[undef]at h
 |some v=>rw[hc]at h;simp at h;rw[h]
theorem jbn.wanted{l:List Oper}{o:Oper}{t:Array Value}(h:jbn l o (λd=>t.getD d undef)):Region.wanted o (yielded l.toArray t)=true:=by
 unfold jbn at h
 unfold Region.wanted;cases hg:o.guard with
 |none=>rfl
 |some p=>
  obtain⟨k,b⟩:=p;rw[hg]at h
  obtain⟨d,h1,h2⟩:=h;have h3:=jcZ h2;simp[yielded,h1,h3]
theorem jcc.wanted{l:List Oper}{o:Oper}{t:Array Value}(h:jcc l o (λd=>t.getD d undef)):Region.wanted o (yielded l.toArray t)=false:=by
 unfold jcc at h
 unfold Region.wanted;cases hg:o.guard with
 |none=>rw[hg]at h;exact h.elim
 |some p=>
  obtain⟨k,b⟩:=p;rw[hg]at h
  obtain⟨d,h1,h2⟩:=h;have h3:=jcZ h2;simp[yielded,h1,h3]
theorem jfi.of{i:Nat}{o:Oper}(_hin:l[i]?=some o)(hi:i<n)(hB:jiw l n=true)(hsz:((l.take n).filterMap (·.dst)).all (λd=>decide (d<a.tmps.size))=true)
  (yg:∀i g g' w,(∀j o d,JD l j i->l[j]?=some o->o.dst=some d->g d=g' d)->R i g w->R i g' w)
  (h:∀(g:Nat->Value) w',Below w.heap.size w w'->(∀d,((l.take n).filterMap (·.dst)).contains d=false->g d=a.tmps.getD d undef)->Iz n R g w' o->(jbn l o g/\iT P o (UZ g) w' λv w''=>R i (qI g o.dst v) w''/\Below w'.heap.size w' w'')\/(jcc l o g/\R i (qI g o.dst undef) w')):
  jfi P l n R Q a w i o:=by
 simp only[jiw,bG,fV,bD,aX]at hB
 obtain⟨_,yw⟩:=hB;have QD:∀k oe,k<n->l[k]?=some oe->∀e∈oe.after,Region.binds .any e=true->e.on<k:=λk oe hk hoe e he hbd=>by
  have:=yw k (gZ.2 hk);rw[hoe]at this
  simp only[iH,jl,iU,fV,kS,bD]at this
  rcases this e he with h|h
  ·rw[h]at hbd;cases hbd
  ·exact h
 have MG:∀j k,JD l j k->k<n->j<n:=by
  intro j k h;induction h with
  |self=>exact id
  |dP ho he hbd hon _ ih=>
   intro h1;subst hon;have:=QD _ _ h1 ho _ he hbd;exact ih (by omega)
 have hsz':∀d∈(l.take n).filterMap (·.dst),d<a.tmps.size:=λd hd=>by
  have:=aX.1 hsz d hd;simpa using this
 intro f w' hb hd;have hg:∀d∈(l.take n).filterMap (·.dst),(kG a (l.take n) f).tmps.getD d undef=f d:=λd hd=>by
  have h1:=zV ((l.take n).filterMap (·.dst)) f a.tmps d
  rw[aB (hsz' d hd),aB hd]at h1
  unfold kG;simp only[ji,h1,jl]
 have ho:∀d,((l.take n).filterMap (·.dst)).contains d=false->(kG a (l.take n) f).tmps.getD d undef=a.tmps.getD d undef:=λd hd=>by
  have h1:=zV ((l.take n).filterMap (·.dst)) f a.tmps d
  have h2:d ∉ (l.take n).filterMap (·.dst):=by simpa using hd
  rw[ay h2]at h1
  unfold kG;simp only[ji,h1];by_cases hl:d<a.tmps.size
  ·rw[aB hl]
  ·rw[ay hl,fZ (qK hl)]
 have key:=h (λd=>(kG a (l.take n) f).tmps.getD d undef) w' hb ho (λe he hbd hen=>yg e.on f _ _ (λj oj d haj hoj hdj=>(hg d (Eo hoj (MG _ _ haj hen) hdj)).symm) (hd e he hbd hen))
 have jmq:∀v w'',R i (qI (λd=>(kG a (l.take n) f).tmps.getD d undef) o.dst v) w''->R i (qI f o.dst v) w'':=λv w'' hr=>by
  refine yg i _ _ _ (λj oj d haj hoj hdj=>?_) hr
  have hjn:=MG _ _ haj hi;have hmem:=Eo hoj hjn hdj;cases hdst:o.dst with
  |none=>exact hg d hmem
  |some d0=>
   unfold qI upd;simp only;split
   ·rfl
   ·exact hg d hmem
 rcases key with⟨hw,key⟩|⟨hw,key⟩
 ·rw[<- RJ]at key
  refine .inl ⟨hw.wanted,oD ?_ key.wp⟩
  rintro a' w'' ⟨v,rfl,hr,hbw⟩;exact⟨v,rfl,jmq v w'' hr,hbw⟩
 ·exact .inr ⟨hw.wanted,jmq undef w' key⟩
def OpG(P:Program)(l:List Oper)(n:Nat)(Rs:List vV)(a:Act)(w:World)(i:Nat)(o:Oper)(p:vV):Prop:=
 (∀g w1 w2,p g w1->Below w1.heap.size w1 w2->p g w2)/\(∀g g' w,(∀j o d,JD l j i->l[j]?=some o->o.dst=some d->g d=g' d)->p g w->p g' w)/\
 ∀g w',Below w.heap.size w w'->(∀d,((l.take n).filterMap (·.dst)).contains d=false->g d=a.tmps.getD d undef)->Iz n (atR Rs) g w' o->
  (jbn l o g/\iT P o (UZ g) w' λv w''=>p (qI g o.dst v) w''/\Below w'.heap.size w' w'')\/(jcc l o g/\p (qI g o.dst undef) w')
def jaL(P:Program)(l:List Oper)(n:Nat)(Rs:List vV)(a:Act)(w:World):Nat->List Oper->List vV->Prop
 |_,[],_=>True
 |_,_::_,[]=>False
 |i,o::r,p::ps=>OpG P l n Rs a w i o p/\jaL P l n Rs a w (i+1) r ps
theorem jaL.at{Rs:List vV}:∀ {r:List Oper} {ps:List vV} {k:Nat},jaL P l n Rs a w k r ps->∀ {j:Nat} {o:Oper},r[j]?=some o->OpG P l n Rs a w (k+j) o (ps.getD j (λ_ _=>True))
 |[],_,_,_,_,_,h=>by simp at h
 |_::_,[],_,h,_,_,_=>h.elim
 |x::r,p::ps,k,h,0,o,hj=>by
  simp at hj
  subst hj;exact h.1
 |x::r,p::ps,k,h,j+1,o,hj=>by
  have:=jaL.at h.2 (j:=j) (o:=o) (by simpa using hj)
  rw[show k+1+j=k+(j+1)by omega]at this
  simpa using this
theorem jmP(n:Nat)(Rs:List vV)(hB:jiw l n=true)(hn:Rs.length=n)(hsz:((l.take n).filterMap (·.dst)).all (λd=>decide (d<a.tmps.size))=true)
  (hops:jaL P l n Rs a w 0 (l.take n) Rs) (hend:∀f w',Below w.heap.size w w'->TA Rs f w'->wpList P l.toArray Q (l.drop n) (kG a (l.take n) f) w'):wpAny P .any l.toArray Q l.toArray.size (Array.replicate l.toArray.size false) a w.drew:=by
 have hle:n<=l.length:=by
  have:=hB;simp only[jiw,bG,fV,bD]at this
  rcases this.1.1.1 with h|h<;>omega
 have hat:∀i,i<n->∃o,l[i]?=some o/\OpG P l n Rs a w i o (atR Rs i):=λi hi=>by
  have hil:i<l.length:=by omega
  refine⟨l[i],by simp[hil],?_⟩
  have:=hops.at (j:=i) (o:=l[i]) (by rw[gJ];simp[hi,hil])
  rwa [eY]at this
 have hst:∀i g w1 w2,atR Rs i g w1->Below w1.heap.size w1 w2->atR Rs i g w2:=λi g w1 w2 h hb=>by
  by_cases hi:i<n
  ·obtain⟨o,_,h1,_⟩:=hat i hi;exact h1 g w1 w2 h hb
  ·unfold atR;rw[dU,kZ (by omega)]
   trivial
 have yg:∀i g g' w,(∀j o d,JD l j i->l[j]?=some o->o.dst=some d->g d=g' d)->atR Rs i g w->atR Rs i g' w:=λi g g' w1 he h=>by
  by_cases hi:i<n
  ·obtain⟨o,_,_,h2,_⟩:=hat i hi;exact h2 g g' w1 he h
  ·unfold atR;rw[dU,kZ (by omega)]
   trivial
 refine jmy n (atR Rs) hB hst yg (λi o hin hi=>?_) (λf w' hb hR=>hend f w' hb (TA.of λi hi=>hR i (by omega)))
 obtain⟨o',ho',_,_,h3⟩:=hat i hin;rw[hi]at ho'
 injection ho' with ho'
 subst ho';exact jfi.of hi hin hB hsz yg h3
theorem jcT(n:Nat)(Rs:List vV){id:Nat}(hm:P.follows .mixedOrders=true)(hB:jiw l n=true)(hn:Rs.length=n)(hsz:((l.take n).filterMap (·.dst)).all (λd=>decide (d<a.tmps.size))=true)
  (hops:jaL P l n Rs a w 0 (l.take n) Rs) (hend:∀f w',Below w.heap.size w w'->TA Rs f w'->wpList P l.toArray Q (l.drop n) (kG a (l.take n) f) w'):(Code.region id l.toArray true).wp P Q a w:=
 zh hm (jmP n Rs hB hn hsz hops hend)
theorem jaL.nil{Rs:List vV}{i:Nat}{ps:List vV}:jaL P l n Rs a w i [] ps:=by cases ps<;>trivial
theorem jaL.cons{Rs:List vV}{i:Nat}{o:Oper}{r:List Oper}{p:vV}{ps:List vV}(h:OpG P l n Rs a w i o p)(h':jaL P l n Rs a w (i+1) r ps):jaL P l n Rs a w i (o::r) (p::ps):=⟨h,h'⟩
theorem OpG.val{Rs:List vV}{i d:Nat}{o:Oper}{c:Value}(hi:l[i]?=some o)(ho:o.dst=some d)
  (hgd:∀g w',(∀d,((l.take n).filterMap (·.dst)).contains d=false->g d=a.tmps.getD d undef)->Iz n (atR Rs) g w' o->jbn l o g)
  (h:∀g w',Below w.heap.size w w'->(∀d,((l.take n).filterMap (·.dst)).contains d=false->g d=a.tmps.getD d undef)->Iz n (atR Rs) g w' o->(execOp (UZ g) o).run P w'=.ok (.value c) w'):
  OpG P l n Rs a w i o (λg _=>g d=c):=by
 refine⟨λ_ _ _ h _=>h,λg g' _ he h=>(he i o d (JD.self i) hi ho).symm.trans h,λg w' hb hout hd=>.inl ⟨hgd g w' hout hd,?_⟩⟩
 unfold iT;rw[h g w' hb hout hd];refine⟨?_,aj _ _⟩
 rw[ho];unfold qI upd;simp
theorem OpG.one{Rs:List vV}{i d:Nat}{o:Oper}{p:Value->World->Prop}(hi:l[i]?=some o)(ho:o.dst=some d)(hst:∀v w1 w2,p v w1->Below w1.heap.size w1 w2->p v w2)
  (hgd:∀g w',(∀d,((l.take n).filterMap (·.dst)).contains d=false->g d=a.tmps.getD d undef)->Iz n (atR Rs) g w' o->jbn l o g)
  (h:∀g w',Below w.heap.size w w'->(∀d,((l.take n).filterMap (·.dst)).contains d=false->g d=a.tmps.getD d undef)->Iz n (atR Rs) g w' o->iT P o (UZ g) w' λv w''=>p v w''/\Below w'.heap.size w' w''):
  OpG P l n Rs a w i o (λg w=>p (g d) w):=by
 refine⟨λg w1 w2 h hb=>hst _ _ _ h hb,λg g' w1 he h=>?_,λg w' hb hout hd=>.inl ⟨hgd g w' hout hd,?_⟩⟩
 ·show p (g' d) w1;rw[<- he i o d (JD.self i) hi ho];exact h
 ·have:=h g w' hb hout hd;rw[ho];have e:∀v,qI g (some d) v d=v:=λv=>by unfold qI upd;simp
  simpa only[e]using this
end
end Wh
namespace Wh
open Go Go.RowKit Go.Shelf Go.Proofs Tryz
def nN(r:aJ×Int)(w:World)(e:Ending)(w':World):Prop:=∃V,e=.returned (.tuple #[V.val,.int .i64 r.2])/\dK w' w.heap.size V r.1/\Below w.heap.size w w'
theorem jQ{r:aJ×Int}{c:Int}{w w':World}(h:r=(jD,c))(hb:Below w.heap.size w w'):nN r w (.returned (.tuple #[dH.val,.int .i64 c])) w':=
 ⟨dH,by rw[h],by rw[h];exact dK.zero _ _,hb⟩
theorem EZ{r:aJ×Int}{s:aJ}{V:SV}{w w':World}(h:r=(s,0))(ho:dK w' w.heap.size V s)(hb:Below w.heap.size w w'):nN r w (.returned (.tuple #[V.val,.int .i64 0])) w':=
 ⟨V,by rw[h],by rw[h];exact ho,hb⟩
theorem vC{ops:Array Oper}{rest:List Oper}{o:Oper}{a:Act}{w:World}{Q:Exit->Act->World->Prop}(hgd:o.guard=none)(x y:Operand)(ho:o.op=.store 3 x y)(hn:o.dst=none)(b off:Nat)(u:Value)(q:Int)
  (hx:a.eval x=.pointer (some ⟨b,off,none⟩)) (hy:a.eval y=.int .i64 q) (hc:w.cell? ⟨b,off,none⟩=some u) (hf:w.frozen? ⟨b,off,none⟩=false)
  (h:∀w',w.setCell ⟨b,off,none⟩ (.int .i64 q)=w'->wpList prog ops Q rest a w'):wpList prog ops Q (o::rest) a w:=
 jv hgd λK hK=>by
  unfold Oper.wp;simp only[execOp,ho,hx,hy];go_simp
  exact hK _ _ (h _ rfl)
end Wh
namespace Wh
open Go Go.RowKit Go.Shelf Go.Proofs Tryz
attribute [local go_sem] aT
section
variable {p:dA} {s:aJ} {b g n:Int}
theorem TK(h:aQ p s≠0):rF p s b g n=(jD,aQ p s):=by unfold rF;rw[aB h]
theorem BJ(h:aQ p s=0)(h2:(lV p b&&iK p g&&cZ n 1 200)=false):rF p s b g n=(jD,3):=by
 unfold rF;rw[ay (λhn=>hn h),h2];rfl
theorem Q5(h:aQ p s=0)(h2:(lV p b&&iK p g&&cZ n 1 200)=true)(h3:free p s b<n*bI p.aP g.toNat):rF p s b g n=(jD,5):=by
 unfold rF;rw[ay (λhn=>hn h),h2,ay (by simp),aB h3]
theorem Io(h:aQ p s=0)(h2:(lV p b&&iK p g&&cZ n 1 200)=true)(h3:n*bI p.aP g.toNat<=free p s b)(h4:200<cell s.on b.toNat g.toNat+iq s b g+n\/1048576<bI s.gY g.toNat+n):rF p s b g n=(jD,2):=by
 unfold rF;rw[ay (λhn=>hn h),h2,ay (by simp),ay (by omega),aB h4]
theorem Vw(h:aQ p s=0)(h2:(lV p b&&iK p g&&cZ n 1 200)=true)(h3:n*bI p.aP g.toNat<=free p s b)(h4:cell s.on b.toNat g.toNat+iq s b g+n<=200)(h5:bI s.gY g.toNat+n<=1048576):
  rF p s b g n=({s with on:=setCell s.on b.toNat g.toNat (cell s.on b.toNat g.toNat+n),gY:=s.gY.set g.toNat (bI s.gY g.toNat+n)},0):=by
 unfold rF;rw[ay (λhn=>hn h),h2,ay (by simp),ay (by omega),ay (by omega)]
end
theorem ja9(w:World)(v vs:Value)(p:dA)(s:aJ)(b g n:Int)(hp:mW w w.heap.size v p)(hv:lK w w.heap.size vs s):
  Calls prog 44 #[v,vs,.int .i64 b,.int .i64 g,.int .i64 n] w (nN (rF p s b g n) w):=by
 obtain⟨Ab,cb,As,cs,rfl,hP',hBn,hSz,hlb,hls⟩:=sN hp;obtain⟨A0,c0,A1,c1,A2,c2,A3,c3,A4,c4,A5,c5,A6,c6,rfl,hV,hN,hO,hH,hM,hI,hU,hX,hl0,hl1,hl2,hl3,hl4,hl5,JA⟩:=oW hv;go_enter func44,ntmps44
 go_wp2_with fail;obtain⟨W0,hW0,hb0,lg,uZ,hsE,hK,hR⟩:=yD w p s Ab cb As cs A0 c0 A1 c1 A2 c2 A3 c3 A4 c4 A5 c5 A6 c6;rw[hW0];clear hW0;obtain⟨⟨y0,y1⟩,x0,x1,x2,x3,x4,x5,x6,eP,eU⟩:=hK.O W0 (aj W0.heap.size W0);go_wp2_with fail;clear y0 y1 x0 x1 x2 x3 x4 x5 x6 eP eU;refine(Nz _ _ _ p s (hP'.O _ hb0) (hV.O _ hb0)).mono ?_
 rintro e W1 ⟨rfl,h1⟩;have hB1:=hb0.trans (h1.mono hb0.size);obtain⟨⟨y0,y1⟩,x0,x1,x2,x3,x4,x5,x6,eP,eU⟩:=hK.O W1 (h1);by_cases hc:aQ p s=0
 ·have hc':=ah hc;have hsn:=ah (kM.1 hc).1;rw[hc];clear hc;go_wp2_with fail;clear y0 y1 x0 x1 x2 x3 x4 x5 x6 eP eU;refine(JI _ _ p b g (hP'.O _ hB1)).mono ?_
  rintro e W2 ⟨rfl,h2⟩;have h02:=h1.trans (h2.mono h1.size);have hB2:=hb0.trans (h02.mono hb0.size);obtain⟨⟨y0,y1⟩,x0,x1,x2,x3,x4,x5,x6,eP,eU⟩:=hK.O W2 (h02);cases hth:(lV p b&&iK p g)
  ·have bK:=ah (BJ (n:=n) hc'.O (by rw[hth];rfl))
   clear hth;have fH:=hR.O _ h02;go_wp2_with (refine dB (.tmp 10) (.tmp 31) dH dH rfl fH rfl rfl (λw9 dM je=>?_))
   have dN:=Below.gB hB2 je;go_wp2_with fail;exact jo results44 dM rfl rfl (jQ bK.O dN)
  ·have ZY:=ah hth;rw[bG]at hth
   have hbb:=ah (yT.1 hth.1);have hgg:=ah (vN.1 hth.2);clear hth;by_cases hn1:1<=n
   ·by_cases hn2:n<=200
    ·have kE:=ah (show(lV p b&&iK p g&&cZ n 1 200)=true by rw[ZY.O,dV.2 ⟨hn1,hn2⟩];rfl)
     have hb1:0<=b:=hbb.O.1;have hb2:b<(s.on.length:Int):=by rw[hsn.O.tY];exact hbb.O.2
     have hg1:0<=g:=hgg.O.1;have hg2:g<(p.aP.length:Int):=hgg.O.2;have hbl:b.toNat<s.on.length:=by omega
     have hgs:g.toNat<p.aP.length:=by omega
     have hgl:g.toNat<(fO s.on b.toNat).length:=by rw[hsn.O.rowLen (by have:=hbb.O;omega)];omega
     have hgr:g<((fO s.on b.toNat).length:Int):=by omega
     have hgi:g<(s.gY.length:Int):=by rw[hsn.O.gY.1];omega
     obtain⟨z1,z2⟩:=zH hsn.O.plan hgs;have hm1:=O5 (a:=n) (b:=bI p.aP g.toNat) (by omega) ⟨z1,z2⟩
     have hw1:IntKind.i64.wrap (n*bI p.aP g.toNat)=n*bI p.aP g.toNat:=aN _ (by omega)
     obtain⟨os0,ls0,rs0⟩:=(hSz.O W2 hB2).at_.int hgs;have q0:=λo d os=>bY (w:=W2) (b:=w.heap.size) eU o d os
     have q1:=λo d os=>bY (w:=W2) (b:=w.heap.size+1) eP o d os
     have q2:=λo d os=>bY (w:=W2) (b:=jd As) ls0 o d os
     have hP2:=ah (λd os=>hP'.O _ (hB2.trans ((kW W2 d os).mono hB2.size)))
     have hV2:=ah (λd os=>hV.O _ (hB2.trans ((kW W2 d os).mono hB2.size)))
     by_cases hfu:free p s b<n*bI p.aP g.toNat
     ·have bK:=ah (Q5 (n:=n) hc'.O kE.O hfu);go_wp2_with fail;refine dG (by kernel_rfl) (by kernel_rfl) ?_
      repeat(go_big_quiet_step ((go_at_call 93;refine gI (jhc _ _ _ p s b (hP2.O _ _) (hV2.O _ _) hsn.O hbb.O))))
      refine wpQuiet_nil ?_
      intro W3 hw';have hb3:=dD hw';clear hw';have h03:=h02.trans (hb3.mono h02.size);have hB3:=hb0.trans (h03.mono hb0.size);have fH:=hR.O _ h03;go_wp2_with (refine dB (.tmp 10) (.tmp 45) dH dH rfl fH rfl rfl (λw9 dM je=>?_))
      have dN:=Below.gB hB3 je;go_wp2_with fail;exact jo results44 dM rfl rfl (jQ bK.O dN)
     ·have jd3:n*bI p.aP g.toNat<=free p s b:=by omega
      go_wp2_with fail;refine dG (by kernel_rfl) (by kernel_rfl) ?_
      repeat(go_big_quiet_step ((go_at_call 93;refine gI (jhc _ _ _ p s b (hP2.O _ _) (hV2.O _ _) hsn.O hbb.O))))
      refine wpQuiet_nil ?_
      intro W3 hw';have hb3:=dD hw';clear hw';have h03:=h02.trans (hb3.mono h02.size);have hB3:=hb0.trans (h03.mono hb0.size);clear q0 q1 q2 hP2 hV2 hw1 rs0 os0 ls0;clear y0 y1 x0 x1 x2 x3 x4 x5 x6 eP eU;obtain⟨⟨y0,y1⟩,x0,x1,x2,x3,x4,x5,x6,eP,eU⟩:=hK.O W3 (h03);obtain⟨Ar,cr,or0,TQ,Yx,vS⟩:=(hN.O W3 hB3).row hbl;obtain⟨or1,lr1,QW⟩:=vS.at_.int hgl;obtain⟨oi,li,ri⟩:=(hI.O W3 hB3).at_.int (i:=g.toNat) (by omega)
      have hcl:bI (fO s.on b.toNat) g.toNat=cell s.on b.toNat g.toNat:=rfl;rw[hcl]at QW
      clear hcl;have t1:=hsn.O.cell (b:=b.toNat) (g:=g.toNat) (by have:=hbb.O;omega) hgs
      have t2:=xC hsn.O b g;have t3:=hsn.O.gY.2 hgs;have hw1:IntKind.i64.wrap (cell s.on b.toNat g.toNat+iq s b g)=cell s.on b.toNat g.toNat+iq s b g:=aN _ (by omega)
      have hw2:IntKind.i64.wrap (cell s.on b.toNat g.toNat+iq s b g+n)=cell s.on b.toNat g.toNat+iq s b g+n:=aN _ (by omega)
      have hw3:IntKind.i64.wrap (bI s.gY g.toNat+n)=bI s.gY g.toNat+n:=aN _ (by omega)
      have q1:=λo d os=>bY (w:=W3) (b:=w.heap.size+1) eP o d os
      have q2:=λo d os=>bY (w:=W3) (b:=jd A0) TQ o d os
      have q3:=λo d os=>bY (w:=W3) (b:=jd Ar) lr1 o d os
      have hV2:=ah (λd os=>hV.O _ (hB3.trans ((kW W3 d os).mono hB3.size)))
      by_cases hm:200<cell s.on b.toNat g.toNat+iq s b g+n
      ·have bK:=ah (Io (n:=n) hc'.O kE.O jd3 (.inl hm));go_wp2_with fail;refine dG (by kernel_rfl) (by kernel_rfl) ?_
       repeat(go_big_quiet_step ((go_at_call 94;refine gI (UM _ _ p s b g (hV2.O _ _) hsn.O))))
       refine wpQuiet_nil ?_
       intro W4 hw';have hb4:=dD hw';clear hw';have h04:=h03.trans (hb4.mono h03.size);have hB4:=hb0.trans (h04.mono hb0.size);have fH:=hR.O _ h04;go_wp2_with (refine dB (.tmp 10) (.tmp 71) dH dH rfl fH rfl rfl (λw9 dM je=>?_))
       have dN:=Below.gB hB4 je;go_wp2_with fail;exact jo results44 dM rfl rfl (jQ bK.O dN)
      ·have hm':cell s.on b.toNat g.toNat+iq s b g+n<=200:=by omega
       go_wp2_with fail;refine dG (by kernel_rfl) (by kernel_rfl) ?_
       repeat(go_big_quiet_step ((go_at_call 94;refine gI (UM _ _ p s b g (hV2.O _ _) hsn.O))))
       refine wpQuiet_nil ?_
       intro W4 hw';have hb4:=dD hw';clear hw';have h04:=h03.trans (hb4.mono h03.size);have hB4:=hb0.trans (h04.mono hb0.size);clear q1 q2 q3 hV2 hw1 hw2;clear y0 y1 x0 x1 x2 x3 x4 x5 x6 eP eU;obtain⟨⟨y0,y1⟩,x0,x1,x2,x3,x4,x5,x6,eP,eU⟩:=hK.O W4 (h04);have ri4:=(hb4.cell (p:=⟨jd A4,ou A4+g.toNat,none⟩) li).trans ri;clear Yx QW ri hm;by_cases hi:1048576<bI s.gY g.toNat+n
       ·have bK:=ah (Io (n:=n) hc'.O kE.O jd3 (.inr hi));have fH:=hR.O _ h04;go_wp2_with (refine dB (.tmp 10) (.tmp 71) dH dH rfl fH rfl rfl (λw9 dM je=>?_))
        have dN:=Below.gB hB4 je;go_wp2_with fail;exact jo results44 dM rfl rfl (jQ bK.O dN)
       ·have hi':bI s.gY g.toNat+n<=1048576:=by omega
        have bK:=ah (Vw (n:=n) hc'.O kE.O jd3 hm' hi');go_wp2_with fail;clear y0 y1 x0 x1 x2 x3 x4 x5 x6 eP eU;clear ri4 hi;refine(ja1 _ _ p s (hV.O _ hB4) hsn.O).mono ?_
        rintro e W5 ⟨_,rfl,⟨V5,rfl,AY⟩,h5⟩;have pq:=(AY).one;have xw:=vG (W5);go_wp2_with (refine dB (.tmp 13) (.tmp 73) dH V5 rfl xw rfl pq (λw6 lM Ib=>?_);refine aW ?_)
        unfold Hid;have sG:=qX Ib;have vT:=lM.lt;clear pq xw Ib;have ho6:=AY.below sG;have h06:=h04.trans ((h5.trans (sG.mono h5.size)).mono h04.size);have Sm:=hb0.trans (h06.mono hb0.size);have jd1:w.heap.size<=W4.heap.size:=hB4.size;have jbY:W0.heap.size<=W4.heap.size:=h04.size;obtain⟨go,co,PE,gr,cr2,cur,e1,f1,f2,f3,e2,f4,f5,f6⟩:=ho6.Py hbl hgl;have hx0:=lM.cells.1;rw[e1]at hx0
        have hf:=f5.frozen g.toNat;have hst:=ho6.Yv hbl hgl e2 (cell s.on b.toNat g.toNat+n);have DR:=lM.off hst.2 f5 (by decide)
        have hw4:IntKind.i64.wrap (cell s.on b.toNat g.toNat+n)=cell s.on b.toNat g.toNat+n:=aN _ (by omega)
        have h07:=h06.setCell (p:=⟨gr,g.toNat,none⟩) (aY jbY f4) (.int .i64 (cell s.on b.toNat g.toNat+n));have YW:=Sm.setCell (p:=⟨gr,g.toNat,none⟩) (aY jd1 f4) (.int .i64 (cell s.on b.toNat g.toNat+n));go_wp2_with (refine vC rfl (.tmp 84) (.tmp 83) rfl rfl gr g.toNat _ _ rfl rfl f6 hf (λw7 hw7=>?_);refine aW ?_)
        unfold Hid;rw[hw7]at hst DR h07 YW
        clear hw7 hw4 hx0 hf f2 f3 f5 f6 e1 e2 ho6 lM;have Ia:dK w7 W4.heap.size V5 {s with on:=setCell s.on b.toNat g.toNat (cell s.on b.toNat g.toNat+n)}:=hst.1
        have jiG:g.toNat<s.gY.length:=by omega
        obtain⟨gi,ci,juK,e3,k1,k2,k3⟩:=dK.BF (l:=s.gY) Ia.gY jiG;have hx4:=DR.cells.2.2.2.2.1;rw[e3]at hx4
        have hfi:=k2.frozen g.toNat;have hst2:=Ia.jg8 jiG e3 (bI s.gY g.toNat+n);have KW:=DR.off hst2.2 k2 (by decide)
        have DY:=h07.setCell (p:=⟨gi,g.toNat,none⟩) (aY jbY k1) (.int .i64 (bI s.gY g.toNat+n));have Uz:=YW.setCell (p:=⟨gi,g.toNat,none⟩) (aY jd1 k1) (.int .i64 (bI s.gY g.toNat+n));go_wp2_with (refine vC rfl (.tmp 92) (.tmp 91) rfl rfl gi g.toNat _ _ rfl rfl k3 hfi (λw8 hw8=>?_);refine aW ?_)
        unfold Hid;rw[hw8]at hst2 KW DY Uz
        clear hw8 hx4 hfi k2 k3 e3;have ho8:dK w8 W4.heap.size V5 {s with on:=setCell s.on b.toNat g.toNat (cell s.on b.toNat g.toNat+n),gY:=s.gY.set g.toNat (bI s.gY g.toNat+n)}:=hst2.1
        have jip:=ah ho8;have jea:=ah KW;clear hst hst2 Ia ho8 DR KW AY;have fH:=hR.O _ DY;obtain⟨b0,b1,b2,b3,b4,b5,b6⟩:=jk.cells jea.O;have lG:=dK.one jip.O;go_wp2_with (refine dB (.tmp 10) (.tmp 93) dH V5 rfl fH rfl lG (λw9 dM je=>?_))
        have wC:=dK.keptBy jip.O je fH (by decide) (by decide) (by decide) (by decide) (by decide) (by decide)
        have dN:=Below.gB Uz je;clear b0 b1 b2 b3 b4 b5 b6;go_wp2_with fail;exact jo results44 dM rfl rfl (EZ bK.O (wC.from_ jd1) dN)
    ·have bK:=ah (BJ (n:=n) hc'.O (by rw[ZY.O,show cZ n 1 200=false from nU.2 (by omega)];rfl))
     have fH:=hR.O _ h02;go_wp2_with (refine dB (.tmp 10) (.tmp 31) dH dH rfl fH rfl rfl (λw9 dM je=>?_))
     have dN:=Below.gB hB2 je;go_wp2_with fail;exact jo results44 dM rfl rfl (jQ bK.O dN)
   ·have bK:=ah (BJ (n:=n) hc'.O (by rw[ZY.O,show cZ n 1 200=false from nU.2 (by omega)];rfl))
    have fH:=hR.O _ h02;go_wp2_with (refine dB (.tmp 10) (.tmp 31) dH dH rfl fH rfl rfl (λw9 dM je=>?_))
    have dN:=Below.gB hB2 je;go_wp2_with fail;exact jo results44 dM rfl rfl (jQ bK.O dN)
 ·have hne:(aQ p s !=0)=true:=by simpa using hc
  have bK:=ah (TK (b:=b) (g:=g) (n:=n) hc);clear hc;have fH:=hR.O _ h1;go_wp2_with (refine dB (.tmp 10) (.tmp 19) dH dH rfl fH rfl rfl (λw9 dM je=>?_))
  have dN:=Below.gB hB1 je;go_wp2_with fail;exact jo results44 dM rfl rfl (jQ bK.O dN)
end Wh
namespace Wh
open Go Go.RowKit Go.Shelf Go.Proofs Tryz
structure Step(ks:Nat->Prop)(w w':World):Prop where
 os:w'.os=w.os
 tape:w'.tape=w.tape
 output:w'.output=w.output
 size:w.heap.size<=w'.heap.size
 block:∀k,k<w.heap.size->¬ks k->w'.heap[k]?=w.heap[k]?
namespace Step
variable {ks ks':Nat→Prop} {a b c w w':World}
theorem refl(ks:Nat->Prop)(w:World):Step ks w w:=⟨rfl,rfl,rfl,au _,λ_ _ _=>rfl⟩
theorem trans'(h:Step ks a b)(h':Step ks' b c)(hk:∀k,k<a.heap.size->ks' k->ks k):Step ks a c:=
 ⟨h'.os.trans h.os,h'.tape.trans h.tape,h'.output.trans h.output,aY h.size h'.size,λk hl hn=>(h'.block k (aI hl h.size) (λhh=>hn (hk k hl hh))).trans (h.block k hl hn)⟩
theorem trans(h:Step ks a b)(h':Step ks b c):Step ks a c:=h.trans' h' λ_ _ h=>h
theorem mono(h:Step ks w w')(hk:∀k,ks k->ks' k):Step ks' w w':=⟨h.os,h.tape,h.output,h.size,λk hl hn=>h.block k hl λhh=>hn (hk k hh)⟩
theorem of_below(h:Below w.heap.size w w'):Step ks w w':=⟨h.os,h.tape,h.output,h.size,λk hl _=>h.block k hl⟩
theorem jR{row:Option Nat}(h:w.grownBy w' row)(hk:∀k,row=some k->ks k):Step ks w w':=
 ⟨h.os,h.tape,h.output,h.size,λk hl hn=>h.block k hl (λhe=>hn (hk k he.symm))⟩
theorem below{B:Nat}(h:Step ks w w')(hk:∀k,ks k->B<=k)(hB:B<=w.heap.size):Below B w w':=
 ⟨h.os,h.tape,h.output,h.size,λk hl=>h.block k (aI hl hB) λhh=>Nat.not_le_of_lt hl (hk k hh)⟩
theorem blk{g:Nat}{e:TypeId}{cur:List Value}(h:Step ks w w')(hb:iV w g e cur)(hn:¬ks g):iV w' g e cur:=(h.block g hb.lt hn).trans hb
theorem heap{g:Nat}{o:Obj}(h:Step ks w w')(hb:w.heap[g]?=some o)(hn:¬ks g):w'.heap[g]?=some o:=(h.block g (bJ.1 hb).1 hn).trans hb
end Step
theorem Own.step{α:Type}{enc:α->List Value}{size:Nat}{e:TypeId}{w w':World}{aO:Nat}{v:Value}{l:List α}{ks:Nat->Prop}(h:Own enc size e w aO v l)(hs:Step ks w w')(hk:∀k,v.ownBlock=some k->¬ks k):Own enc size e w' aO v l:=by
 refine⟨h.1,?_⟩
 rcases h.2 with hn|⟨g,cap,cur,rfl,hbg,hg,rest⟩
 ·exact .inl hn
 ·exact .inr ⟨g,cap,cur,rfl,hbg,by rw[hs.block g (bJ.1 hg).1 (hk g rfl)];exact hg,rest⟩
structure jcQ(t:TypeId):Prop where
 h1:23≠t
 h2:3≠t
 h3:42≠t
 h4:44≠t
 h5:46≠t
 h6:48≠t
theorem Xp:jcQ 31:=⟨by decide,by decide,by decide,by decide,by decide,by decide⟩
structure Bx(w:World)(aO b:Nat)(t:TypeId)(rest:List Value)(V:SV)(s:aJ):Prop where
 box:iV w b t (V.cells++rest)
 own:dK w aO V s
 ty:jcQ t
namespace Bx
variable {w w':World} {aO b:Nat} {t:TypeId} {rest:List Value} {V:SV} {s:aJ} {ks:Nat→Prop}
theorem of(h:jk w b V)(ho:dK w aO V s):Bx w aO b 31 [] V s:=⟨by rw[iJ];exact h,ho,Xp⟩
theorem uK(h:Bx w aO b 31 [] V s):jk w b V:=by have:=h.box;rwa [iJ]at this
theorem lt(h:Bx w aO b t rest V s):b<w.heap.size:=h.box.lt
theorem below(h:Bx w aO b t rest V s)(hb:Below w.heap.size w w'):Bx w' aO b t rest V s:=⟨h.box.below hb h.lt,h.own.below hb,h.ty⟩
theorem drew(h:Bx w aO b t rest V s):Bx w.drew aO b t rest V s:=⟨h.box,h.own.drew,h.ty⟩
theorem from_(h:Bx w aO b t rest V s){base':Nat}(hb:base'<=aO):Bx w base' b t rest V s:=⟨h.box,h.own.from_ hb,h.ty⟩
theorem cells(h:Bx w aO b t rest V s):w.cell? ⟨b,0,none⟩=some V.on/\w.cell? ⟨b,1,none⟩=some V.ak/\w.cell? ⟨b,2,none⟩=some V.aA/\w.cell? ⟨b,3,none⟩=some V.aF/\
  w.cell? ⟨b,4,none⟩=some V.gY/\w.cell? ⟨b,5,none⟩=some V.O/\w.cell? ⟨b,6,none⟩=some V.bg:=
 ⟨h.box.cell rfl,h.box.cell rfl,h.box.cell rfl,h.box.cell rfl,h.box.cell rfl,h.box.cell rfl,h.box.cell rfl⟩
theorem frozen(h:Bx w aO b t rest V s)(o:Nat):w.frozen? ⟨b,o,none⟩=false:=h.box.frozen o
theorem setCells(h:Bx w aO b t rest V s)(j:Nat)(u:Value)(V':SV)(hV:V'.cells++rest=(V.cells++rest).set j u):
  iV (w.setCell ⟨b,j,none⟩ u) b t (V'.cells++rest)/\w.grownBy (w.setCell ⟨b,j,none⟩ u) (some b)/\dK (w.setCell ⟨b,j,none⟩ u) aO V s:=by
 obtain⟨h1,h2⟩:=xA h.box j u;exact⟨by rw[hV];exact h1,h2,h.own.keptBy h2 h.box h.ty.h1 h.ty.h2 h.ty.h3 h.ty.h4 h.ty.h5 h.ty.h6⟩
theorem set'{V':SV}{s':aJ}(hb:iV w b t (V.cells++rest))(ho:dK w aO V' s')(hT:jcQ t)(j:Nat)(u:Value)(hV:V'.cells++rest=(V.cells++rest).set j u):
  Bx (w.setCell ⟨b,j,none⟩ u) aO b t rest V' s'/\w.grownBy (w.setCell ⟨b,j,none⟩ u) (some b):=by
 obtain⟨h1,h2⟩:=xA hb j u;exact⟨⟨by rw[hV];exact h1,ho.keptBy h2 hb hT.h1 hT.h2 hT.h3 hT.h4 hT.h5 hT.h6,hT⟩,h2⟩
theorem KJ{w1 w2:World}(h:Bx w aO b t rest V s)(hb:Below w.heap.size w w1){u:Value}{x:Order}(hu:Own kP 4 44 w1 aO u x.aH)(hf:∀g,u.ownBlock=some g->w.heap.size<=g)(hg:w1.grownBy w2 V.ak.ownBlock)
  {v':Value} (hv:Own Nl 2 42 w2 aO v' (zI s.ak V.aH++[(x.dW,u)])):
  iV w2 b t (V.cells++rest)/\dK w2 aO {V with ak:=v',aH:=V.aH++[u]} {s with ak:=s.ak++[x]}:=by
 have h1:=h.below hb;exact⟨h1.box.grown hg (λhe=>by
  rcases h1.own.ak.mQ h1.box h1.ty.h3 with h|h
  ·rw[h]at he;cases he
  ·exact h he.symm),h.own.KJ hb hu hf hg hv⟩
theorem jg9(h:Bx w aO b t rest V s){u:Value}{l:List dZ}(hu:Own ig 4 46 w aO u l):
  Bx (w.setCell ⟨b,2,none⟩ u) aO b t rest {V with aA:=u} {s with aA:=l}/\w.grownBy (w.setCell ⟨b,2,none⟩ u) (some b):=by
 obtain⟨h1,h2,h3⟩:=h.setCells 2 u {V with aA:=u} rfl
 exact⟨⟨h1,⟨h3.on,h3.rlen,h3.row,h3.ak,h3.llen,h3.aG,hu.kept h2 (hu.mQ h.box h.ty.h5),h3.aF,h3.gY,h3.O,h3.bg,h3.apart,h3.yS⟩,h.ty⟩,h2⟩
theorem off(h:Bx w aO b t rest V s){g:Nat}{e:TypeId}{cur:List Value}(hb:iV w g e cur)(hne:e≠t)(hg:w.grownBy w' (some g)):iV w' b t (V.cells++rest):=
 h.box.grown hg (by intro he;injection he with he;exact hb.ne h.box hne he.symm)
end Bx
theorem jkB{w:World}{aO:Nat}{V:SV}{s:aJ}(h:dK w aO V s){o k:Nat}(ho:o<s.ak.length)(hk:k<(s.aC o).aH.length){gl n c:Nat}(hv:V.aG o=.slice (some ⟨gl,0,none⟩) n c):∃cur,iV w gl 44 cur:=by
 obtain⟨g,c',cur,e1,_,e3,_⟩:=h.gK ho hk;rw[hv]at e1
 injection e1 with e1
 injection e1 with e1
 injection e1 with e1
 subst e1;exact⟨cur,e3⟩
section
variable {ops:Array Oper} {rest:List Oper} {o:Oper} {a:Act} {w:World} {Q:Exit→Act→World→Prop} {aO b:Nat} {t:TypeId} {cs:List Value} {V:SV} {s:aJ}
theorem GV(hgd:o.guard=none)(x y:Operand)(ho:o.op=.store 28 x y)(hn:o.dst=none)(A:Option Addr)(n c:Nat)(l:List dZ)(hB:Bx w aO b t cs V s)(hx:a.eval x=.pointer (some ⟨b,2,none⟩))(hy:a.eval y=.slice A n c)
  (hu:Own ig 4 46 w aO (.slice A n c) l) (h:∀w',Bx w' aO b t cs {V with aA:=.slice A n c} {s with aA:=l}->Step (·=b) w w'->wpList prog ops Q rest a w'):wpList prog ops Q (o::rest) a w:=
 jv hgd λK hK=>by
  obtain⟨h1,h2⟩:=hB.jg9 hu;have h3:=h _ h1 (.jR h2 λk hk=>by injection hk with hk;exact hk.symm)
  have hc:=hB.cells.2.2.1;have hf:=hB.frozen 2;clear h hB hu h1 h2;unfold Oper.wp;simp only[execOp,ho,hx,hy];go_simp
  exact hK _ _ h3
theorem jen{w:World}{gl o j:Nat}{a b c d:Value}(hj:j<4)(h0:w.cell? ⟨gl,o,none⟩=some a)(h1:w.cell? ⟨gl,o+1,none⟩=some b)(h2:w.cell? ⟨gl,o+2,none⟩=some c)(h3:w.cell? ⟨gl,o+3,none⟩=some d):∃u,w.cell? ⟨gl,o+j,none⟩=some u:=by
 rcases(show j=0\/j=1\/j=2\/j=3 by omega)with rfl|rfl|rfl|rfl
 ·exact⟨_,h0⟩
 ·exact⟨_,h1⟩
 ·exact⟨_,h2⟩
 ·exact⟨_,h3⟩
theorem PI(hgd:o.guard=none)(x y:Operand)(ho:o.op=.store 27 x y)(hn:o.dst=none)(A:Option Addr)(n c:Nat){V':SV}{s':aJ}(hk:iV w b t (V.cells++cs))(hO:dK w aO V' s')(hT:jcQ t)(hV:V'.cells++cs=(V.cells++cs).set 1 (.slice A n c))
  (hx:a.eval x=.pointer (some ⟨b,1,none⟩)) (hy:a.eval y=.slice A n c) (h:∀w',Bx w' aO b t cs V' s'->Step (·=b) w w'->wpList prog ops Q rest a w'):wpList prog ops Q (o::rest) a w:=
 jv hgd λK hK=>by
  obtain⟨h1,h2⟩:=Bx.set' hk hO hT 1 (.slice A n c) hV;have h3:=h _ h1 (.jR h2 λk hk=>by injection hk with hk;exact hk.symm)
  have hc:w.cell? ⟨b,1,none⟩=some V.ak:=hk.cell rfl;have hf:=hk.frozen 1;clear h hk hO h1 h2 hV;unfold Oper.wp;simp only[execOp,ho,hx,hy];go_simp
  exact hK _ _ h3
theorem Ig(hgd:o.guard=none)(x y:Operand)(ho:o.op=.store 28 x y)(hn:o.dst=none)(A:Option Addr)(n c:Nat){V':SV}{s':aJ}(hk:iV w b t (V.cells++cs))(hO:dK w aO V' s')(hT:jcQ t)(hV:V'.cells++cs=(V.cells++cs).set 2 (.slice A n c))
  (hx:a.eval x=.pointer (some ⟨b,2,none⟩)) (hy:a.eval y=.slice A n c) (h:∀w',Bx w' aO b t cs V' s'->Step (·=b) w w'->wpList prog ops Q rest a w'):wpList prog ops Q (o::rest) a w:=
 jv hgd λK hK=>by
  obtain⟨h1,h2⟩:=Bx.set' hk hO hT 2 (.slice A n c) hV;have h3:=h _ h1 (.jR h2 λk hk=>by injection hk with hk;exact hk.symm)
  have hc:w.cell? ⟨b,2,none⟩=some V.aA:=hk.cell rfl;have hf:=hk.frozen 2;clear h hk hO h1 h2 hV;unfold Oper.wp;simp only[execOp,ho,hx,hy];go_simp
  exact hK _ _ h3
theorem LH(hgd:o.guard=none)(x y:Operand)(ho:o.op=.store 29 x y)(hn:o.dst=none)(A:Option Addr)(n c:Nat){V':SV}{s':aJ}(hk:iV w b t (V.cells++cs))(hO:dK w aO V' s')(hT:jcQ t)(hV:V'.cells++cs=(V.cells++cs).set 3 (.slice A n c))
  (hx:a.eval x=.pointer (some ⟨b,3,none⟩)) (hy:a.eval y=.slice A n c) (h:∀w',Bx w' aO b t cs V' s'->Step (·=b) w w'->wpList prog ops Q rest a w'):wpList prog ops Q (o::rest) a w:=
 jv hgd λK hK=>by
  obtain⟨h1,h2⟩:=Bx.set' hk hO hT 3 (.slice A n c) hV;have h3:=h _ h1 (.jR h2 λk hk=>by injection hk with hk;exact hk.symm)
  have hc:w.cell? ⟨b,3,none⟩=some V.aF:=hk.cell rfl;have hf:=hk.frozen 3;clear h hk hO h1 h2 hV;unfold Oper.wp;simp only[execOp,ho,hx,hy];go_simp
  exact hK _ _ h3
theorem AO(hgd:o.guard=none)(x z:Operand)(ho:o.op=.store 3 x z)(hn:o.dst=none){i k j gl n c:Nat}{y:Line}{q:Int}(hB:Bx w aO b t cs V s)(hi:i<s.ak.length)(hk:k<(s.aC i).aH.length)
  (hv:V.aG i=.slice (some ⟨gl,0,none⟩) n c) (hj:j<4) (hy:kP y=(kP (s.aG i k)).set j (.int .i64 q)) (hx:a.eval x=.pointer (some ⟨gl,k*4+j,none⟩)) (hz:a.eval z=.int .i64 q)
  (h:∀w',Bx w' aO b t cs V (s.lY i k y)->Step (·=gl) w w'->wpList prog ops Q rest a w'):wpList prog ops Q (o::rest) a w:=
 jv hgd λK hK=>by
  obtain⟨g',c',cur,e1,_,e3,f0,f1,f2,f3⟩:=hB.own.gK hi hk;rw[hv]at e1
  injection e1 with e1
  injection e1 with e1
  injection e1 with e1
  subst e1;obtain⟨h1,h2⟩:=hB.own.lY hi hk hv hj hy;have h3:=h _ ⟨hB.off e3 hB.ty.h4 h2,h1,hB.ty⟩ (.jR h2 λk hk=>by injection hk with hk;exact hk.symm)
  have hf:=e3.frozen (k*4+j);obtain⟨u,hc⟩:=jen hj f0 f1 f2 f3;clear h hB h1 h2 f0 f1 f2 f3 e3 hy;unfold Oper.wp;simp only[execOp,ho,hx,hz];go_simp
  exact hK _ _ h3
end
end Wh
namespace Wh
open Go Go.RowKit Go.Shelf Go.Proofs Tryz
attribute [local go_sem] aT jW jm kC
def yH(p:dA)(x:Line):Bool:=!(iK p x.dh&&cZ x.iw 1 200)
def Ku(x:Line):Bool:=!(decide (x.oh=0)&&decide (x.dP=0))
theorem Yg(p:dA)(x:Line):(iK p x.dh=false/\yH p x=true)\/(iK p x.dh=true/\x.iw<1/\yH p x=true)\/(iK p x.dh=true/\1<=x.iw/\200<x.iw/\yH p x=true)\/
  (iK p x.dh=true/\1<=x.iw/\x.iw<=200/\yH p x=false):=by
 unfold yH;have h1:=@dV x.iw 1 200;cases hw:cZ x.iw 1 200<;>cases hg:iK p x.dh<;>simp only[hw,iE,vg,uG]at h1<;>simp<;>omega
theorem Ri(x:Line):((x.oh !=0)=true/\Ku x=true)\/((x.oh !=0)=false/\(x.dP !=0)=true/\Ku x=true)\/((x.oh !=0)=false/\(x.dP !=0)=false/\Ku x=false):=by
 unfold Ku;by_cases h1:x.oh=0<;>by_cases h2:x.dP=0<;>simp[h1,h2]
section
variable {p:dA} {s:aJ} {l:List Line}
theorem Y6(h:aQ p s≠0):enter p s l=(jD,aQ p s):=by unfold enter;rw[aB h]
theorem Jq(h:aQ p s=0)(h2:4<=s.ak.length\/l.length<1\/3<l.length):enter p s l=(jD,2):=by
 unfold enter;have hw:=@dV l.length 1 3;have h3:4<=s.ak.length\/(!cZ l.length 1 3)=true:=by
  cases hh:cZ l.length 1 3
  ·exact .inr rfl
  ·have:=hw.1 hh;omega
 rw[ay (λhn=>hn h),aB h3]
theorem Ov(h:aQ p s=0)(h2:s.ak.length<4)(h3:1<=l.length/\l.length<=3)(h4:l.any (yH p)=true):enter p s l=(jD,3):=by
 unfold enter;have e:(!(l.all λx=>iK p x.dh&&cZ x.iw 1 200))=true:=by rw[<- FP];exact h4
 have hw:cZ l.length 1 3=true:=dV.2 (by omega)
 rw[ay (λhn=>hn h),hw,ay (by simp;omega),aB e]
theorem QM(h:aQ p s=0)(h2:s.ak.length<4)(h3:1<=l.length/\l.length<=3)(h4:l.any (yH p)=false)(h5:l.any Ku=true):enter p s l=(jD,1):=by
 unfold enter;have e:(!(l.all λx=>iK p x.dh&&cZ x.iw 1 200))=false:=by rw[<- FP];exact h4
 have e2:(!(l.all λx=>decide (x.oh=0)&&decide (x.dP=0)))=true:=by rw[<- FP];exact h5
 have hw:cZ l.length 1 3=true:=dV.2 (by omega)
 rw[ay (λhn=>hn h),hw,ay (by simp;omega),e,e2]
 rfl
theorem jcs(h:aQ p s=0)(h2:s.ak.length<4)(h3:1<=l.length/\l.length<=3)(h4:l.any (yH p)=false)(h5:l.any Ku=false):enter p s l=({s with ak:=s.ak++[⟨0,l⟩]},0):=by
 unfold enter;have e:(!(l.all λx=>iK p x.dh&&cZ x.iw 1 200))=false:=by rw[<- FP];exact h4
 have e2:(!(l.all λx=>decide (x.oh=0)&&decide (x.dP=0)))=false:=by rw[<- FP];exact h5
 have hw:cZ l.length 1 3=true:=dV.2 (by omega)
 rw[ay (λhn=>hn h),hw,ay (by simp;omega),e,e2]
 rfl
end
theorem jju(p:dA)(x:Line)(W:World)(B:Nat)(hz:gQ p=0)(Ab As:Option Addr)(cb cs:Nat)(h0:W.cell? ⟨B,0,none⟩=some (.slice Ab p.bQ.length cb))(h1:W.cell? ⟨B,1,none⟩=some (.slice As p.aP.length cs))(hB:B<W.heap.size)
  (hP:mW W W.heap.size (.agg #[.slice Ab p.bQ.length cb,.slice As p.aP.length cs]) p):
  Calls prog 96 #[I5 x,.pointer (some ⟨B,0,none⟩)] W λe W'=>e=.returned (.bool (yH p x))/\Below W.heap.size W W':=by
 have hb1:lV p 0=true:=yT.2 (by have:=pJ hz;omega)
 have hb0:Below W.heap.size W (W.alloc (.cells #[.int .i64 (x).dh,.int .i64 (x).iw,.int .i64 (x).oh,.int .i64 (x).dP] 44)):=(aj _ _).alloc (au _) _;unfold I5;rcases Yg p x with⟨g1,hf⟩|⟨g1,g2,hf⟩|⟨g1,g2,g3,hf⟩|⟨g1,g2,g3,hf⟩
 all_goals
  have hth:(lV p 0&&iK p x.dh)=(iK p x.dh):=by rw[hb1];rfl
  have ZY:=ah hth;clear hth;have hf':=ah hf;clear hf;go_enter func96,ntmps96
  go_wp2_with fail;refine(JI _ _ p 0 x.dh (hP.grow hb0)).mono ?_
  rintro e W1 ⟨rfl,hc1⟩;have hB:=hb0.trans (hc1.mono hb0.size);obtain⟨ha1,hf1⟩:=xH hc1;rw[ZY.O,g1];go_wp2_with fail;go_ret
  exact⟨fK (by rw[hf'.O]<;>first|rfl|(simp<;>omega)),hB⟩
theorem jer:Enters prog 96:=enters_of func96 (by kernel_rfl) rfl
theorem jlq(x:Line)(W:World):Calls prog 97 #[I5 x] W λe W'=>e=.returned (.bool (Ku x))/\Below W.heap.size W W':=by
 have hb0:Below W.heap.size W (W.alloc (.cells #[.int .i64 (x).dh,.int .i64 (x).iw,.int .i64 (x).oh,.int .i64 (x).dP] 44)):=(aj _ _).alloc (au _) _;unfold I5;rcases Ri x with⟨g1,hf⟩|⟨g1,g2,hf⟩|⟨g1,g2,hf⟩
 all_goals
  have hf':=ah hf;clear hf;go_enter func97,ntmps97
  go_wp2_with fail;go_ret
  exact⟨fK (by rw[hf'.O]),hb0⟩
theorem jeq:Enters prog 97:=enters_of func97 (by kernel_rfl) rfl
theorem jfM(w:World)(v vs vl:Value)(p:dA)(s:aJ)(l:List Line)(hp:mW w w.heap.size v p)(hv:lK w w.heap.size vs s)(hl:Sl kP w w.heap.size vl l):
  Calls prog 45 #[v,vs,vl] w (nN (enter p s l) w):=by
 have hL:=ah hl;obtain⟨Al,cl,rfl,hll,hAl⟩:=hl;clear hAl;obtain⟨Ab,cb,As,cs,rfl,hP',hBn,hSz,hlb,hls⟩:=sN hp;obtain⟨A0,c0,A1,c1,A2,c2,A3,c3,A4,c4,A5,c5,A6,c6,rfl,hV,hN,hO,hH,hM,hI,hU,hX,hl0,hl1,hl2,hl3,hl4,hl5,JA⟩:=oW hv;go_enter func45,ntmps45
 go_wp2_with fail;obtain⟨W0,hW0,hb0,lg,uZ,hsE,hK,hR⟩:=yD w p s Ab cb As cs A0 c0 A1 c1 A2 c2 A3 c3 A4 c4 A5 c5 A6 c6;rw[hW0];clear hW0;obtain⟨⟨y0,y1⟩,x0,x1,x2,x3,x4,x5,x6,eP,eU⟩:=hK.O W0 (aj W0.heap.size W0);go_wp2_with fail;clear y0 y1 x0 x1 x2 x3 x4 x5 x6 eP eU;refine(Nz _ _ _ p s (hP'.O _ hb0) (hV.O _ hb0)).mono ?_
 rintro e W1 ⟨rfl,h1⟩;have hB1:=hb0.trans (h1.mono hb0.size);obtain⟨⟨y0,y1⟩,x0,x1,x2,x3,x4,x5,x6,eP,eU⟩:=hK.O W1 (h1);by_cases hc:aQ p s=0
 ·have hc':=ah hc;have hsn:=ah (kM.1 hc).1;rw[hc];clear hc;have h4:=hsn.O.qH;by_cases Uw:s.ak.length=4
  ·have bK:=ah (Jq (l:=l) hc'.O (.inl (by omega)))
   have jiq:(s.ak.length:Int)=4:=by omega
   clear Uw h4;have fH:=hR.O _ h1;go_wp2_with (refine dB (.tmp 6) (.tmp 28) dH dH rfl fH rfl rfl (λw9 dM je=>?_))
   have dN:=Below.gB hB1 je;go_wp2_with fail;exact jo results45 dM rfl rfl (jQ bK.O dN)
  have jto:((s.ak.length:Int)==4)=false:=by simp;omega
  by_cases hl1:l.length<1
  ·have bK:=ah (Jq (p:=p) (s:=s) hc'.O (.inr (.inl hl1)));clear Uw;have fH:=hR.O _ h1;go_wp2_with (refine dB (.tmp 6) (.tmp 28) dH dH rfl fH rfl rfl (λw9 dM je=>?_))
   have dN:=Below.gB hB1 je;go_wp2_with fail;exact jo results45 dM rfl rfl (jQ bK.O dN)
  by_cases hl3:3<l.length
  ·have bK:=ah (Jq (p:=p) (s:=s) hc'.O (.inr (.inr hl3)));clear Uw;have fH:=hR.O _ h1;go_wp2_with (refine dB (.tmp 6) (.tmp 28) dH dH rfl fH rfl rfl (λw9 dM je=>?_))
   have dN:=Below.gB hB1 je;go_wp2_with fail;exact jo results45 dM rfl rfl (jQ bK.O dN)
  have ho:s.ak.length<4:=by omega
  have Z8:1<=l.length/\l.length<=3:=by omega
  clear Uw;go_wp2_with fail;clear y0 y1 x0 x1 x2 x3 x4 x5 x6 eP eU;refine(xO _ _ l 96 #[.pointer (some ⟨w.heap.size,0,none⟩)] (yH p) jer (hL.O.grow hB1) (λj _ W hW=>by
   have hW2:=h1.trans (hW.mono h1.size);obtain⟨⟨a0,a1⟩,_,_,_,_,_,_,_,_,a2⟩:=hK.O W hW2;exact jju p _ W w.heap.size hsn.O.plan Ab As cb cs a0 a1 a2 (hP'.O W (hb0.trans (hW2.mono hb0.size))))).mono ?_
  rintro e W2 ⟨rfl,h2⟩;have h02:=h1.trans (h2.mono h1.size);have hB2:=hb0.trans (h02.mono hb0.size);obtain⟨⟨y0,y1⟩,x0,x1,x2,x3,x4,x5,x6,eP,eU⟩:=hK.O W2 (h02);cases ha:l.any (yH p)
  ·have ha':=ah ha;clear ha;go_wp2_with fail;clear y0 y1 x0 x1 x2 x3 x4 x5 x6 eP eU;refine(xO _ _ l 97 #[] Ku jeq (hL.O.grow hB2) (λj _ W hW=>jlq _ W)).mono ?_
   rintro e W3 ⟨rfl,h3⟩;have h03:=h02.trans (h3.mono h02.size);have hB3:=hb0.trans (h03.mono hb0.size);obtain⟨⟨y0,y1⟩,x0,x1,x2,x3,x4,x5,x6,eP,eU⟩:=hK.O W3 (h03);cases hn:l.any Ku
   ·have bK:=ah (jcs hc'.O ho Z8 ha'.O hn);clear hn;go_wp2_with fail;clear y0 y1 x0 x1 x2 x3 x4 x5 x6 eP eU;refine(ja1 _ _ p s (hV.O _ hB3) hsn.O).mono ?_
    rintro e W5 ⟨_,rfl,⟨V5,rfl,AY⟩,h5⟩;have pq:=(AY).one;have xw:=vG (W5);go_wp2_with (refine dB (.tmp 9) (.tmp 39) dH V5 rfl xw rfl pq (λw6 lM Ib=>?_);refine aW ?_)
    unfold Hid;have sG:=qX Ib;have vT:=lM.lt;clear pq xw Ib;have hx6:=ah (Bx.of lM (AY.below sG));have h06:=h03.trans ((h5.trans (sG.mono h5.size)).mono h03.size);have Sm:=hb0.trans (h06.mono hb0.size);have hle3:w.heap.size<=W3.heap.size:=hB3.size;have jq5:W0.heap.size<=W3.heap.size:=h03.size;have zZ:W3.heap.size<=W5.heap.size:=h5.size;have jtz:W5.heap.size<w6.heap.size:=vT;clear lM AY sG h5 vT;go_wp2_with fail;refine qZ 6 [λgq _=>gq 40=.pointer (some ⟨W5.heap.size,1,none⟩),λgq _=>gq 41=V5.ak,λgq _=>gq 42=.slice Al l.length cl,λgq w'=>(λv w'=>Own kP 4 44 w' w6.heap.size v l) (gq 43) w',λgq w'=>(λv w'=>∃u,v=.agg #[.int .i64 0,u]/\Own kP 4 44 w' w6.heap.size u l) (gq 44) w',λgq w'=>(λv w'=>∃bb u,v=.slice (some ⟨bb,0,none⟩) 1 1/\w'.cell? ⟨bb,0,none⟩=some (.int .i64 0)/\w'.cell? ⟨bb,1,none⟩=some u/\bb<w'.heap.size/\Own kP 4 44 w' w6.heap.size u l) (gq 45) w'] (by kernel_rfl) (by kernel_rfl) rfl (by kernel_rfl) ?_ (λf w2 hb2 hR=>?_)
    simp only[bC,bV];refine dX.cons (iR.val rfl rfl (λgq w' hb ho hd=>?_)) ?_
    ·have e9:=ho 9 rfl;go_simp
    refine dX.cons (iR.val rfl rfl (λgq w' hb ho hd=>?_)) ?_
    ·have e40:gq 40=.pointer (some ⟨W5.heap.size,1,none⟩):=hd ⟨0,.data⟩ (by simp) rfl (by decide)
     have x1:=(hx6.O.below hb).cells.2.1;go_simp
    refine dX.cons (iR.val rfl rfl (λgq w' hb ho hd=>?_)) ?_
    ·have e2:=ho 2 rfl;go_simp
    refine dX.cons (iR.one (d:=43) (p:=(λv w'=>Own kP 4 44 w' w6.heap.size v l)) rfl rfl (λv w1 w2 h hb=>h.below hb) (λgq w' hb ho hd=>?_)) ?_
    ·have e42:gq 42=.slice Al l.length cl:=hd ⟨2,.data⟩ (by simp) rfl (by decide)
     have hl':=hL.O.grow (Sm.trans (hb.mono Sm.size));unfold iT;go_simp
     refine(Zb w' _ l hl' (by omega)).mono ?_
     rintro e w2 ⟨u,rfl,hu,hb2⟩;exact⟨u,rfl,hu.from_ hb.size,hb2⟩
    refine dX.cons (iR.one (d:=44) (p:=(λv w'=>∃u,v=.agg #[.int .i64 0,u]/\Own kP 4 44 w' w6.heap.size u l)) rfl rfl (λv w1 w2 h hb=>let ⟨u,h1,h2⟩:=h;⟨u,h1,h2.below hb⟩) (λgq w' hb ho hd=>?_)) ?_
    ·have e43:Own kP 4 44 w' w6.heap.size (gq 43) l:=hd ⟨3,.data⟩ (by simp) rfl (by decide)
     obtain⟨E,kc,s30⟩:=e43.isSlice;rw[s30]at e43
     have e':=ah e43;clear e43;unfold iT;go_simp
     exact⟨e'.O,aj _ _⟩
    refine dX.cons (iR.one (d:=45) (p:=(λv w'=>∃bb u,v=.slice (some ⟨bb,0,none⟩) 1 1/\w'.cell? ⟨bb,0,none⟩=some (.int .i64 0)/\w'.cell? ⟨bb,1,none⟩=some u/\bb<w'.heap.size/\Own kP 4 44 w' w6.heap.size u l)) rfl rfl (λv w1 w2 h hb=>let ⟨bb,u,h1,h2,h2',h3,h4⟩:=h;⟨bb,u,h1,(hb.cell (p:=⟨bb,0,none⟩) h3).trans h2,(hb.cell (p:=⟨bb,1,none⟩) h3).trans h2',aI h3 hb.size,h4.below hb⟩) (λgq w' hb ho hd=>?_)) ?_
    ·have e44:∃u,(gq 44)=.agg #[.int .i64 0,u]/\Own kP 4 44 w' w6.heap.size u l:=hd ⟨4,.data⟩ (by simp) rfl (by decide)
     obtain⟨u,e44,hu⟩:=e44;obtain⟨E,kc,s30⟩:=hu.isSlice;rw[s30]at e44 hu
     have e':=ah hu;clear hu;unfold iT;go_simp
     exact⟨e'.O.alloc _,(aj _ _).alloc (au _) _⟩
    exact dX.nil;obtain⟨r40,r41,r42,r43,r44,r45,_⟩:=hR;replace r43:Own kP 4 44 w2 w6.heap.size (f 43) l:=r43;replace r44:∃u,(f 44)=.agg #[.int .i64 0,u]/\Own kP 4 44 w2 w6.heap.size u l:=r44;replace r45:∃bb u,(f 45)=.slice (some ⟨bb,0,none⟩) 1 1/\w2.cell? ⟨bb,0,none⟩=some (.int .i64 0)/\w2.cell? ⟨bb,1,none⟩=some u/\bb<w2.heap.size/\Own kP 4 44 w2 w6.heap.size u l:=r45;simp only[kG,zB,bC,bV,eG,gW,eX,fF,fB,gV,bM,dF,dL,r40,r41,r42];clear r40 r41 r42;obtain⟨bb,u,r4,d0,d1,l4,o4⟩:=r45;simp only[r4];clear r4 r43 r44;obtain⟨E,kc,rfl⟩:=o4.isSlice;have hx2:=hx6.O.below hb2;have Uw:=uJ hx2.own.llen;refine lS _ rfl (.tmp 41) (.tmp 45) 27 42 rfl W3.heap.size _ 2 32 underlying27 O9 rfl (by decide) (by decide) V5.ak (zI s.ak V5.aH) (0,.slice E l.length kc) rfl hx2.own.ak ⟨bb,0,none⟩ 1 rfl rfl (λj x hj=>by
     rw[gU,eY];match j,hj with
     |0,hj=>exact d0.trans hj
     |1,hj=>exact d1.trans hj
     |j+2,hj=>simp[Nl]at hj) (ZJ _ rfl) (by omega) (by have:=hb2.size;omega) ?_
    intro v7 w7 yM LC Tc ET;obtain⟨hk7,Ia⟩:=hx6.O.KJ hb2 (x:=⟨0,l⟩) (o4.from_ (by omega)) (λg hg=>(o4.size g hg).1) LC yM
    obtain⟨Av,cv,hv7⟩:=yM.isSlice;simp only[aZ,dw,dY,eY]at hv7
    have h07:=h06.trans ((hb2.mono h06.size).trans (ET.mono (by omega)))
    have hT7:=hx2.ty;rw[hv7]at Ia
    rw[hv7];have Z7:=ah Ia;have jiE:=ah hk7;clear yM LC Tc hv7 d0 d1 l4 o4 hx2 Uw hk7 Ia;go_wp2_with (refine PI rfl (.tmp 47) (.tmp 46) rfl rfl Av _ cv jiE.O Z7.O hT7 rfl rfl rfl (λw8 KQ AX=>?_);refine aW ?_)
    unfold Hid;have jf9:=h07.size;have DY:=h07.trans (AX.below (B:=W0.heap.size) (λk hk=>by omega) jf9)
    have Uz:=hb0.trans (DY.mono hb0.size);obtain⟨V8,KQ⟩:∃V8,Bx w8 W3.heap.size W5.heap.size 31 [] V8 {s with ak:=s.ak++[⟨0,l⟩]}:=⟨_,KQ⟩
    have vP:=ah KQ;clear Z7 jiE KQ AX jf9;have fH:=hR.O _ DY;obtain⟨b0,b1,b2,b3,b4,b5,b6⟩:=jk.cells vP.O.uK;have lG:=dK.one vP.O.own;go_wp2_with (refine dB (.tmp 6) (.tmp 48) dH V8 rfl fH rfl lG (λw9 dM je=>?_))
    have wC:=dK.keptBy vP.O.own je fH (by decide) (by decide) (by decide) (by decide) (by decide) (by decide)
    have dN:=Below.gB Uz je;clear b0 b1 b2 b3 b4 b5 b6;go_wp2_with fail;exact jo results45 dM rfl rfl (EZ bK.O (wC.from_ hle3) dN)
   ·have bK:=ah (QM hc'.O ho Z8 ha'.O hn);clear hn;have fH:=hR.O _ h03;go_wp2_with (refine dB (.tmp 6) (.tmp 37) dH dH rfl fH rfl rfl (λw9 dM je=>?_))
    have dN:=Below.gB hB3 je;go_wp2_with fail;exact jo results45 dM rfl rfl (jQ bK.O dN)
  ·have bK:=ah (Ov hc'.O ho Z8 ha);clear ha;have fH:=hR.O _ h02;go_wp2_with (refine dB (.tmp 6) (.tmp 33) dH dH rfl fH rfl rfl (λw9 dM je=>?_))
   have dN:=Below.gB hB2 je;go_wp2_with fail;exact jo results45 dM rfl rfl (jQ bK.O dN)
 ·have hne:(aQ p s !=0)=true:=by simpa using hc
  have bK:=ah (Y6 (l:=l) hc);clear hc;have fH:=hR.O _ h1;go_wp2_with (refine dB (.tmp 6) (.tmp 15) dH dH rfl fH rfl rfl (λw9 dM je=>?_))
  have dN:=Below.gB hB1 je;go_wp2_with fail;exact jo results45 dM rfl rfl (jQ bK.O dN)
end Wh
namespace Wh
open Go Go.RowKit Go.Shelf Go.Proofs Tryz
attribute [local go_sem] aT
theorem jks{l:List dZ}{h:dZ}{k:Nat}(hk:k<=l.length)(h1:∀i,i<k->ord (hold l i) h<0)(h2:∀i,k<=i->i<l.length->0<=ord (hold l i) h):pos l h=k:=
 pos_eq hk h1 (λhk'=>h2 k (au _) hk')
theorem jg0(w:World)(v:Value)(l:List dZ)(x:dZ)(hv:Sl ig w w.heap.size v l)(hok:iD l=true)(hn:l.length<=1000000):
  Calls prog 169 #[v,um x,.func (.func 167) #[] #[]] w λe w'=>e=.returned (.tuple #[.int .i64 (pos l x),.bool (zN l x)])/\Below w.heap.size w w':=by
 obtain⟨A,c,rfl,_,hA⟩:=hv;have hless:=ah (λ(i j:Nat) (hij:i<=j) (hj:j<l.length) (h:ord (hold l j) x<0)=>jeX hok hij hj h)
 have hok':=ah hok;clear hok;have hb0:Below w.heap.size w (w.alloc (.cells #[.int .i64 (x).aC,.int .i64 (x).aG,.int .i64 (x).bin,.int .i64 (x).n] 46)):=(aj _ _).alloc (au _) _;unfold um;go_enter func169,ntmps169
 go_wp2_with fail;obtain⟨W0,hW0⟩:∃W0,W0=w.alloc (.cells #[.int .i64 (x).aC,.int .i64 (x).aG,.int .i64 (x).bin,.int .i64 (x).n] 46):=⟨_,rfl⟩;rw[<- hW0]at hb0 ⊢
 have z0:W0.cell? ⟨w.heap.size,0,none⟩=some (.int .i64 x.aC)/\W0.cell? ⟨w.heap.size,1,none⟩=some (.int .i64 x.aG)/\W0.cell? ⟨w.heap.size,2,none⟩=some (.int .i64 x.bin)/\W0.cell? ⟨w.heap.size,3,none⟩=some (.int .i64 x.n):=by rw[hW0];simp
 have hsz:w.heap.size<W0.heap.size:=by rw[hW0];simp
 clear hW0;obtain⟨z0,z1,z2,z3⟩:=z0;go_loopw[9,10,11] (λi j _ wr=>∃a b:Nat,a<=b/\b<=l.length/\i=.int .i64 a/\j=.int .i64 b/\(∀m,m<a->ord (hold l m) x<0)/\(∀m,b<=m->m<l.length->0<=ord (hold l m) x)/\Below W0.heap.size W0 wr) (λi j _ _=>(RowKit.intOf j - RowKit.intOf i).toNat)
 case atStart=>exact⟨0,l.length,aK _,au _,rfl,rfl,λm hm=>by omega,λm h1 h2=>by omega,aj _ _⟩
 case round=>
  obtain⟨a,b,hab,hbl,rfl,rfl,h1,h2,hbw⟩:=hrel;have h1':=ah h1;have h2':=ah h2;clear h1 h2;by_cases hlt:a<b
  ·have hm:(a+b) / 2<l.length:=by omega
   have hma:a<=(a+b) / 2:=by omega
   have hmb:(a+b) / 2<b:=by omega
   have hB:=hb0.trans (hbw.mono hb0.size);have hBz:w.heap.size<wr.heap.size:=aI hsz hbw.size;obtain⟨y0,y1,y2,y3⟩:wr.cell? ⟨w.heap.size,0,none⟩=some (.int .i64 x.aC)/\wr.cell? ⟨w.heap.size,1,none⟩=some (.int .i64 x.aG)/\wr.cell? ⟨w.heap.size,2,none⟩=some (.int .i64 x.bin)/\wr.cell? ⟨w.heap.size,3,none⟩=some (.int .i64 x.n):=
    ⟨(hbw.cell (p:=⟨_,_,none⟩) hsz).trans z0,(hbw.cell (p:=⟨_,_,none⟩) hsz).trans z1,(hbw.cell (p:=⟨_,_,none⟩) hsz).trans z2,(hbw.cell (p:=⟨_,_,none⟩) hsz).trans z3⟩
   obtain⟨hok,LG,b0,b1,b2,b3⟩:=(hA.up hB hB.size).hold hm;have q0:=λo d os=>bY (w:=wr) (b:=w.heap.size) hBz o d os
   have qA:=λo d os=>bY (w:=wr) (b:=jd A) LG o d os
   by_cases ho:ord (hold l ((a+b) / 2)) x<0
   ·go_wp2_with fail;refine dG (by kernel_rfl) (by kernel_rfl) ?_
    repeat(go_big_quiet_step ((go_at_call 167;refine gI (Pg (hold l ((a+b) / 2)) x _))))
    refine wpQuiet_nil ?_
    intro W2 hw';have hb2:=dD hw';clear hw';go_wp2_with fail;go_roundw
    case rel=>
     refine⟨(a+b) / 2+1,b,by omega,hbl,by go_num,rfl,λm hm=>?_,h2'.O,hbw.trans (hb2.mono hbw.size)⟩
     exact hless.O m _ (by omega) (by omega) ho
    case measure=>simp[RowKit.intOf];omega
   ·have ho':0<=ord (hold l ((a+b) / 2)) x:=by omega
    go_wp2_with fail;refine dG (by kernel_rfl) (by kernel_rfl) ?_
    repeat(go_big_quiet_step ((go_at_call 167;refine gI (Pg (hold l ((a+b) / 2)) x _))))
    refine wpQuiet_nil ?_
    intro W2 hw';have hb2:=dD hw';clear hw';go_wp2_with fail;go_roundw
    case rel=>
     refine⟨a,(a+b) / 2,by omega,by omega,rfl,by go_num,h1'.O,λm hm hml=>?_,hbw.trans (hb2.mono hbw.size)⟩
     exact Int.not_lt.1 λhn=>by have:=hless.O _ m hm hml hn;omega
    case measure=>simp[RowKit.intOf];omega
  ·obtain rfl:a=b:=by omega
   have wK:pos l x=a:=jks hbl h1'.O h2'.O;have hpos':=ah wK;have hB:=hb0.trans (hbw.mono hb0.size);by_cases hal:a<l.length
   ·have hBz:w.heap.size<wr.heap.size:=aI hsz hbw.size;obtain⟨y0,y1,y2,y3⟩:wr.cell? ⟨w.heap.size,0,none⟩=some (.int .i64 x.aC)/\wr.cell? ⟨w.heap.size,1,none⟩=some (.int .i64 x.aG)/\wr.cell? ⟨w.heap.size,2,none⟩=some (.int .i64 x.bin)/\wr.cell? ⟨w.heap.size,3,none⟩=some (.int .i64 x.n):=
     ⟨(hbw.cell (p:=⟨_,_,none⟩) hsz).trans z0,(hbw.cell (p:=⟨_,_,none⟩) hsz).trans z1,(hbw.cell (p:=⟨_,_,none⟩) hsz).trans z2,(hbw.cell (p:=⟨_,_,none⟩) hsz).trans z3⟩
    obtain⟨hok,LG,b0,b1,b2,b3⟩:=(hA.up hB hB.size).hold hal;have q0:=λo d os=>bY (w:=wr) (b:=w.heap.size) hBz o d os
    have qA:=λo d os=>bY (w:=wr) (b:=jd A) LG o d os
    have hf:=ah (show zN l x=(ord (hold l a) x==0)by
     unfold zN;rw[wK,iG hal,lQ];rw[uj];simp)
    clear wK;go_wp2_with fail;refine dG (by kernel_rfl) (by kernel_rfl) ?_
    repeat(go_big_quiet_step ((go_at_call 167;refine gI (Pg (hold l a) x _))))
    refine wpQuiet_nil ?_
    intro W2 hw';have hb2:=dD hw';clear hw';go_wp2_with fail;go_ret2
    exact⟨jdj (by rw[hpos'.O];rfl) (by rw[hf.O];rfl),hB.trans (hb2.mono hB.size)⟩
   ·have hf:=ah (show zN l x=false by
     unfold zN;rw[wK,fA hal,uY])
    obtain rfl:a=l.length:=by omega
    clear wK hal;go_wp2_with fail;refine dG (by kernel_rfl) (by kernel_rfl) ?_
    repeat(go_big_quiet_step ((go_at_call 167;refine gI (Pg (hold l a) x _))))
    refine wpQuiet_nil ?_
    intro W2 hw';have hb2:=dD hw';clear hw';go_wp2_with fail;go_ret2
    exact⟨jdj (by rw[hpos'.O];rfl) (by rw[hf.O];rfl),hB.trans (hb2.mono hB.size)⟩
theorem jiM(w:World)(v:Value)(l:List dZ)(x:dZ)(hv:Sl ig w w.heap.size v l)(hok:iD l=true)(hn:l.length<=1000000):
  Calls prog 154 #[v,um x] w λe w'=>e=.returned (.tuple #[.int .i64 (pos l x),.bool (zN l x)])/\Below w.heap.size w w':=by
 have hV:=hv;obtain⟨A,c,rfl,hl,hA⟩:=hv;have hok':=ah hok;clear hok;have hb0:Below w.heap.size w (w.alloc (.cells #[.int .i64 (x).aC,.int .i64 (x).aG,.int .i64 (x).bin,.int .i64 (x).n] 46)):=(aj _ _).alloc (au _) _;unfold um;go_enter func154,ntmps154
 go_wp2_with fail;refine(jg0 _ _ l x (hV.grow hb0) hok'.O hn).mono ?_
 rintro e W1 ⟨rfl,hb1⟩;go_wp2_with fail;go_ret2
 exact⟨jdj rfl rfl,hb0.trans (hb1.mono hb0.size)⟩
end Wh
