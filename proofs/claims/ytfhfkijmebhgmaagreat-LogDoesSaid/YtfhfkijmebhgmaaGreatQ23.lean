/- Texts of the claim, joined. -/
import Derived.Test.YtfhfkijmebhgmaaGreatQ09
set_option maxHeartbeats 20000000
set_option maxRecDepth 100000
namespace Wh
open Go Go.RowKit
section
variable {P:Program} {l:List Oper} {n:Nat} {R:Nat→(Nat→Value)→World→Prop} {Q:Exit→Act→World→Prop} {a:Act} {w:World}
def RZ(P:Program)(l:List Oper)(n:Nat)(R:Nat->(Nat->Value)->World->Prop)(Q:Exit->Act->World->Prop)(a:Act)(T J:World->Prop)(Eb:World->World->Prop)(brk i:Nat)(o:Oper):Prop:=
 ∀f w',T w'->(i=brk->J w')->Iz n R f w' o->
  o.wp P (kG a (l.take n) f) w' (λa' w''=>∃v,a'=(kG a (l.take n) f).put o.dst v/\R i (qI f o.dst v) w''/\((i≠brk/\Below w'.heap.size w' w'')\/(i=brk/\Eb w' w''))) Q
theorem jfu{T J:World->Prop}{Eb:World->World->Prop}{brk:Nat}(hT1:∀w1 w2,T w1->Below w1.heap.size w1 w2->T w2)(hT2:∀w1 w2,T w1->Eb w1 w2->T w2)(hJ:∀w1 w2,J w1->Below w1.heap.size w1 w2->J w2)(hle:n<=l.length)(NU:∀dJ,HeadInv .any l.toArray n dJ->∀i,i<n->dJ.getD i true=false->∀t,n<=t->t ∉ Region.ready .any l.toArray dJ)(hseq:Region.seqB .any l.toArray (l.length - n) n (KU l.length n)=true)
  (hg:∀i o,i<n->l[i]?=some o->o.guard=none) (hnd:((l.take n).filterMap (·.dst)).Nodup) (yw:∀i o,i<n->l[i]?=some o->∀e∈o.after,Region.binds .any e=true->e.on<i)
  (hst:∀i g w1 w2,R i g w1->Below w1.heap.size w1 w2->R i g w2) (hst2:∀i g w1 w2,i≠brk->R i g w1->Eb w1 w2->R i g w2) (yg:∀i g g' w,(∀j o d,JD l j i->l[j]?=some o->o.dst=some d->g d=g' d)->R i g w->R i g' w) (AV:∀i o,i<n->l[i]?=some o->RZ P l n R Q a T J Eb brk i o)
  (hend:∀f w',T w'->(∀i,i<n->R i f w')->wpList P l.toArray Q (l.drop n) (kG a (l.take n) f) w'):
  ∀(k:Nat) (dJ:Array Bool) (f:Nat->Value) (w':World),HeadInv .any l.toArray n dJ->Sj dJ n=k->T w'->(dJ.getD brk false=false->J w')->(∀i,i<n->dJ.getD i false=true->R i f w')->
   wpAny P .any l.toArray Q (k+(l.length - n)) dJ (kG a (l.take n) f) w'
 |0,dJ,f,w',inv,hk,hb,_,hR=>by
  have hsz:dJ.size=l.length:=by rw[inv.size];simp
  have he:dJ=KU l.length n:=by
   apply nO;intro i;unfold KU;rw[sH]
   simp only[tK];by_cases hi:i<n
   ·rw[aB hi];have h1:=D9 hk hi;have h2:i<dJ.size:=by omega
    simp[hi,h2,Array.getD]at h1 ⊢
    exact h1
   ·rw[ay hi];by_cases hl:i<l.length
    ·have h1:=inv.tail i (by omega) (by simpa using hl)
     have h2:i<dJ.size:=by omega
     have h3:i - n<l.length - n:=by omega
     simp[h2,h3,Array.getD]at h1 ⊢
     exact h1
    ·rw[fZ (by omega),fZ (by simp;omega)]
  have hd:l.length - n=(l.drop n).length:=by simp
  rw[eY,hd];refine wpAny_of_seq (l.drop n) n dJ _ w' (λj=>by simp) (by rw[he,<- hd];exact hseq) (hend f w' hb λi hin=>hR i hin ?_)
  have h1:=D9 hk hin;have h2:i<dJ.size:=by omega
  simp[h2,Array.getD]at h1 ⊢
  exact h1
 |k+1,dJ,f,w',inv,hk,hb,hJw,hR=>by
  have hsz:dJ.size=l.length:=by rw[inv.size];simp
  obtain⟨i0,hi0,hu0⟩:=UL (show 0<Sj dJ n by omega)
  have hne:∀i,i<n->dJ.getD i true=false->Region.ready .any l.toArray dJ≠[]:=by
   intro i;induction i using Nat.strongRecOn with
   |_ i ih=>
    intro hin hu;have hil:i<l.length:=by omega
    by_cases kE:∀e∈(l[i]).after,Region.binds .any e=true->dJ.getD e.on false=true
    ·have:i∈Region.ready .any l.toArray dJ:=nR.2 ⟨hu,l[i],by simp[hil],kE⟩
     intro h0;rw[h0]at this
     cases this
    ·simp only[tJ]at kE
     obtain⟨e,he,hbd,hno⟩:=kE;have hlt:=yw i l[i] hin (by simp[hil]) e he hbd
     exact ih e.on hlt (by omega) (getD_in (by omega) (by simpa using hno))
  rw[show k+1+(l.length - n)=(k+(l.length - n))+1 by omega]
  refine⟨λh0=>absurd h0 (hne i0 hi0 hu0),λi hi=>?_⟩
  have hin:i<n:=by
   rcases rO i n with h|h
   ·exact h
   ·exact absurd hi (NU dJ inv i0 hi0 hu0 i h)
  obtain⟨hu,o,ho,kE⟩:=nR.1 hi;have ho':l[i]?=some o:=by simpa using ho
  have hgd:=hg i o hin ho';have h1:=AV i o hin ho' f w' hb (λe=>hJw (by rw[<- e];exact getD_both hu)) λe he hbd hen=>hR e.on hen (kE e he hbd)
  unfold wpOp;simp only[ho];rw[aB (by simp[Region.wanted,hgd])]
  refine .inl (oD ?_ h1)
  rintro a' w'' ⟨v,rfl,hv,hbw⟩;have hcount:Sj (dJ.setIfInBounds i true) n=k:=by
   have:=UK hu n;rw[aB hin]at this
   omega
  have hb2:T w'':=by
   rcases hbw with⟨_,hbw⟩|⟨_,hbw⟩
   ·exact hT1 _ _ hb hbw
   ·exact hT2 _ _ hb hbw
  have hJ2:(dJ.setIfInBounds i true).getD brk false=false->J w'':=λh=>by
   rcases hbw with⟨hne,hbw⟩|⟨rfl,_⟩
   ·rw[kT false hne]at h
    exact hJ _ _ (hJw h) hbw
   ·rw[BK false (II hu)]at h
    cases h
  have MG:∀j k,JD l j k->k<n->dJ.getD k false=true->j<n/\dJ.getD j false=true:=by
   intro j k h;induction h with
   |self=>exact λh1 h2=>⟨h1,h2⟩
   |dP ho he hbd hon _ ih=>
    intro h1 h2;subst hon;have:=yw _ _ h1 ho _ he hbd;exact ih (by omega) (inv.closed _ _ (by simpa using ho) h2 _ he hbd)
  have bK:(kG a (l.take n) f).put o.dst v=kG a (l.take n) (qI f o.dst v):=by
   cases hdst:o.dst with
   |none=>rfl
   |some d0=>
    unfold kG Act.put qI;simp only;rw[Pj (Eo ho' hin hdst)]
  rw[bK];refine jfu hT1 hT2 hJ hle NU hseq hg hnd yw hst hst2 yg AV hend k _ (qI f o.dst v) w'' (inv.set hi hin) hcount hb2 hJ2 λj hjn hl=>?_
  by_cases hij:i=j
  ·subst hij;exact hv
  ·rw[kT false hij]at hl
   refine yg j f _ _ (λj' oj d haj hoj hd=>?_) (by
    rcases hbw with⟨_,hbw⟩|⟨rfl,hbw⟩
    ·exact hst _ _ _ _ (hR j hjn hl) hbw
    ·exact hst2 _ _ _ _ (λe=>hij e.symm) (hR j hjn hl) hbw)
   obtain⟨jd2,Wu⟩:=MG _ _ haj hjn hl;cases hdst:o.dst with
   |none=>rfl
   |some d0=>
    have hne:i≠j':=λe=>by
     subst e;rw[getD_both hu]at Wu
     cases Wu
    have hdd:=jat hnd ho' hin hdst hoj jd2 hd hne;unfold qI upd;simp only;rw[ay (λe=>hdd e.symm)]
theorem jlG(n:Nat)(T J:World->Prop)(Eb:World->World->Prop)(brk:Nat)(R:Nat->(Nat->Value)->World->Prop)(hB:G5 l n=true)(hT1:∀w1 w2,T w1->Below w1.heap.size w1 w2->T w2)(hT2:∀w1 w2,T w1->Eb w1 w2->T w2)(hJ:∀w1 w2,J w1->Below w1.heap.size w1 w2->J w2)(hT0:T w.drew)(hJ0:J w.drew)
  (hst:∀i g w1 w2,R i g w1->Below w1.heap.size w1 w2->R i g w2) (hst2:∀i g w1 w2,i≠brk->R i g w1->Eb w1 w2->R i g w2)
  (yg:∀i g g' w,(∀j o d,JD l j i->l[j]?=some o->o.dst=some d->g d=g' d)->R i g w->R i g' w) (AV:∀i o,i<n->l[i]?=some o->RZ P l n R Q a T J Eb brk i o)
  (hend:∀f w',T w'->(∀i,i<n->R i f w')->wpList P l.toArray Q (l.drop n) (kG a (l.take n) f) w'):wpAny P .any l.toArray Q l.toArray.size (Array.replicate l.toArray.size false) a w.drew:=by
 simp only[G5,bG,fV,bD,aX]at hB
 obtain⟨⟨⟨⟨hw,hseq⟩,hg⟩,hnd⟩,yw⟩:=hB;have hle:n<=l.length:=by rcases hw with h|h<;>omega
 have hat:∀i o,i<n->l[i]?=some o->o∈l.take n:=λi o hin hi=>by
  rw[pW];exact⟨i,by rw[gJ];simp[hin,hi]⟩
 have H:=jfu (P:=P) (Q:=Q) (a:=a) hT1 hT2 hJ hle ?_ hseq (λi o hin hi=>by simpa using hg o (hat i o hin hi)) hnd ?_ hst hst2 yg AV hend n (Array.replicate l.toArray.size false) (λd=>a.tmps.getD d undef) w.drew
  ⟨by simp,λj oj _ hl=>(by rw[getD_replicate_false]at hl;cases hl),λt _ ht=>getD_in (by simpa using ht) (getD_replicate_false _ _)⟩ ?_ hT0 (λ_=>hJ0) (λi _ hl=>by rw[getD_replicate_false]at hl;cases hl)
 ·have e:kG a (l.take n) (λd=>a.tmps.getD d undef)=a:=by
   unfold kG;rw[MJ]
  rw[e]at H
  have hs:n+(l.length - n)=l.toArray.size:=by simp;omega
  rw[hs]at H
  exact H
 ·intro dJ inv i hin hu t ht hr;rcases hw with h|⟨⟨h1,h2⟩,h3⟩
  ·obtain⟨_,o,ho,_⟩:=nR.1 hr;have:=(bJ.1 ho).1
   simp at this
   omega
  ·exact tail_waits h2 h3 (by simpa using h1) inv (n - i) i rfl hin hu t ht hr
 ·intro i o hin hi e he hbd;have:=yw i (gZ.2 hin);rw[hi]at this
  simp only[iH,jl,iU,fV,kS,bD]at this
  rcases this e he with h|h
  ·rw[h]at hbd;cases hbd
  ·exact h
 ·have key:∀m,m<=l.length->Sj (Array.replicate l.toArray.size false) m=m:=by
   intro m;induction m with
   |zero=>intro _;rfl
   |succ m ih=>
    intro hm;have:=ih (by omega)
    unfold Sj at this ⊢
    have hml:m<l.length:=by omega
    rw[lJ,pG,this];simp[hml]
  exact key n hle
theorem iT.mono{P:Program}{o:Oper}{ev:Operand->Value}{w:World}{K K':Value->World->Prop}(hk:∀v w,K v w->K' v w)(h:iT P o ev w K):iT P o ev w K':=by
 unfold iT at*
 generalize (execOp ev o).run P w=r at*
 cases r with
 |ok n w'=>
  cases n<;>simp only at h ⊢
  case value v=>exact hk _ _ h
  case skip=>exact hk _ _ h
  case enter f args=>exact h.mono λe w'' ⟨v,he,h⟩=>⟨v,he,hk _ _ h⟩
 |halt x w'=>exact h
theorem RZ.of{T J:World->Prop}{Eb:World->World->Prop}{brk:Nat}{i:Nat}{o:Oper}(hi:i<n)(hB:G5 l n=true)(hsz:((l.take n).filterMap (·.dst)).all (λd=>decide (d<a.tmps.size))=true)
  (yg:∀i g g' w,(∀j o d,JD l j i->l[j]?=some o->o.dst=some d->g d=g' d)->R i g w->R i g' w)
  (h:∀(g:Nat->Value) w',T w'->(i=brk->J w')->(∀d,((l.take n).filterMap (·.dst)).contains d=false->g d=a.tmps.getD d undef)->Iz n R g w' o->iT P o (UZ g) w' λv w''=>R i (qI g o.dst v) w''/\((i≠brk/\Below w'.heap.size w' w'')\/(i=brk/\Eb w' w''))):
  RZ P l n R Q a T J Eb brk i o:=by
 simp only[G5,bG,fV,bD,aX]at hB
 obtain⟨_,yw⟩:=hB;have QD:∀k oe,k<n->l[k]?=some oe->∀e∈oe.after,Region.binds .any e=true->e.on<k:=λk oe hk hoe e he hbd=>by
  have:=yw k (gZ.2 hk);rw[hoe]at this
  simp only[iH,jl,iU,fV,kS,bD]at this
  rcases this e he with h|h
  ·rw[h]at hbd;cases hbd
  ·exact h
 have MG:∀j k,JD l j k->k<n->j<n:=by
  intro j k h;induction h with
  |self=>exact id
  |dP ho he hbd hon _ ih=>
   intro h1;subst hon;have:=QD _ _ h1 ho _ he hbd;exact ih (by omega)
 have hsz':∀d∈(l.take n).filterMap (·.dst),d<a.tmps.size:=λd hd=>by
  have:=aX.1 hsz d hd;simpa using this
 intro f w' hb hj hd;have hg:∀d∈(l.take n).filterMap (·.dst),(kG a (l.take n) f).tmps.getD d undef=f d:=λd hd=>by
  have h1:=zV ((l.take n).filterMap (·.dst)) f a.tmps d
  rw[aB (hsz' d hd),aB hd]at h1
  unfold kG;simp only[ji,h1,jl]
 have ho:∀d,((l.take n).filterMap (·.dst)).contains d=false->(kG a (l.take n) f).tmps.getD d undef=a.tmps.getD d undef:=λd hd=>by
  have h1:=zV ((l.take n).filterMap (·.dst)) f a.tmps d
  have h2:d ∉ (l.take n).filterMap (·.dst):=by simpa using hd
  rw[ay h2]at h1
  unfold kG;simp only[ji,h1];by_cases hl:d<a.tmps.size
  ·rw[aB hl]
  ·rw[ay hl,fZ (qK hl)]
 have key:=h (λd=>(kG a (l.take n) f).tmps.getD d undef) w' hb hj ho (λe he hbd hen=>yg e.on f _ _ (λj oj d haj hoj hdj=>(hg d (Eo hoj (MG _ _ haj hen) hdj)).symm) (hd e he hbd hen))
 rw[<- RJ]at key
 refine oD ?_ key.wp
 rintro a' w'' ⟨v,rfl,hr,hbw⟩;refine⟨v,rfl,yg i _ _ _ (λj oj d haj hoj hdj=>?_) hr,hbw⟩
 have hjn:=MG _ _ haj hi;have hmem:=Eo hoj hjn hdj;cases hdst:o.dst with
 |none=>exact hg d hmem
 |some d0=>
  unfold qI upd;simp only;split
  ·rfl
  ·exact hg d hmem
def mX(P:Program)(l:List Oper)(n:Nat)(Rs:List vV)(a:Act)(T J:World->Prop)(Eb:World->World->Prop)(brk i:Nat)(o:Oper)(p:vV):Prop:=
 (∀g w1 w2,p g w1->Below w1.heap.size w1 w2->p g w2)/\(i≠brk->∀g w1 w2,p g w1->Eb w1 w2->p g w2)/\(∀g g' w,(∀j o d,JD l j i->l[j]?=some o->o.dst=some d->g d=g' d)->p g w->p g' w)/\
 ∀g w',T w'->(i=brk->J w')->(∀d,((l.take n).filterMap (·.dst)).contains d=false->g d=a.tmps.getD d undef)->Iz n (atR Rs) g w' o->
  iT P o (UZ g) w' λv w''=>p (qI g o.dst v) w''/\((i≠brk/\Below w'.heap.size w' w'')\/(i=brk/\Eb w' w''))
def iW(P:Program)(l:List Oper)(n:Nat)(Rs:List vV)(a:Act)(T J:World->Prop)(Eb:World->World->Prop)(brk:Nat):Nat->List Oper->List vV->Prop
 |_,[],_=>True
 |_,_::_,[]=>False
 |i,o::r,p::ps=>mX P l n Rs a T J Eb brk i o p/\iW P l n Rs a T J Eb brk (i+1) r ps
section
variable {Rs:List vV} {T J:World→Prop} {Eb:World→World→Prop} {brk:Nat}
theorem iW.at:∀ {r:List Oper} {ps:List vV} {k:Nat},iW P l n Rs a T J Eb brk k r ps->∀ {j:Nat} {o:Oper},r[j]?=some o->mX P l n Rs a T J Eb brk (k+j) o (ps.getD j (λ_ _=>True))
 |[],_,_,_,_,_,h=>by simp at h
 |_::_,[],_,h,_,_,_=>h.elim
 |x::r,p::ps,k,h,0,o,hj=>by
  simp at hj
  subst hj;exact h.1
 |x::r,p::ps,k,h,j+1,o,hj=>by
  have:=iW.at h.2 (j:=j) (o:=o) (by simpa using hj)
  rw[show k+1+j=k+(j+1)by omega]at this
  simpa using this
theorem iW.nil{i:Nat}{ps:List vV}:iW P l n Rs a T J Eb brk i [] ps:=by cases ps<;>trivial
theorem iW.cons{i:Nat}{o:Oper}{r:List Oper}{p:vV}{ps:List vV}(h:mX P l n Rs a T J Eb brk i o p)(h':iW P l n Rs a T J Eb brk (i+1) r ps):iW P l n Rs a T J Eb brk i (o::r) (p::ps):=⟨h,h'⟩
end
theorem jcM(n:Nat)(T J:World->Prop)(Eb:World->World->Prop)(brk:Nat)(Rs:List vV)(hB:G5 l n=true)(hn:Rs.length=n)(hsz:((l.take n).filterMap (·.dst)).all (λd=>decide (d<a.tmps.size))=true)
  (hT1:∀w1 w2,T w1->Below w1.heap.size w1 w2->T w2) (hT2:∀w1 w2,T w1->Eb w1 w2->T w2) (hJ:∀w1 w2,J w1->Below w1.heap.size w1 w2->J w2) (hT0:T w.drew) (hJ0:J w.drew)
  (hops:iW P l n Rs a T J Eb brk 0 (l.take n) Rs) (hend:∀f w',T w'->TA Rs f w'->wpList P l.toArray Q (l.drop n) (kG a (l.take n) f) w'):wpAny P .any l.toArray Q l.toArray.size (Array.replicate l.toArray.size false) a w.drew:=by
 have hle:n<=l.length:=by
  have:=hB;simp only[G5,bG,fV,bD]at this
  rcases this.1.1.1.1 with h|h<;>omega
 have hat:∀i,i<n->∃o,l[i]?=some o/\mX P l n Rs a T J Eb brk i o (atR Rs i):=λi hi=>by
  have hil:i<l.length:=by omega
  refine⟨l[i],by simp[hil],?_⟩
  have:=hops.at (j:=i) (o:=l[i]) (by rw[gJ];simp[hi,hil])
  rwa [eY]at this
 have NV:∀i g w,¬i<n->atR Rs i g w:=λi g w hi=>by
  unfold atR;rw[dU,kZ (by omega)]
  trivial
 have yg:∀i g g' w,(∀j o d,JD l j i->l[j]?=some o->o.dst=some d->g d=g' d)->atR Rs i g w->atR Rs i g' w:=λi g g' w1 he h=>by
  by_cases hi:i<n
  ·obtain⟨o,_,_,_,h2,_⟩:=hat i hi;exact h2 g g' w1 he h
  ·exact NV i g' w1 hi
 refine jlG n T J Eb brk (atR Rs) hB hT1 hT2 hJ hT0 hJ0 (λi g w1 w2 h hb=>?_) (λi g w1 w2 hne h hb=>?_) yg (λi o hi ho=>?_) (λf w' hb hR=>hend f w' hb (TA.of λi hi=>hR i (by omega)))
 ·by_cases hi:i<n
  ·obtain⟨o,_,h1,_⟩:=hat i hi;exact h1 g w1 w2 h hb
  ·exact NV i g w2 hi
 ·by_cases hi:i<n
  ·obtain⟨o,_,_,h1,_⟩:=hat i hi;exact h1 hne g w1 w2 h hb
  ·exact NV i g w2 hi
 ·obtain⟨o',ho',_,_,_,h3⟩:=hat i hi;rw[ho]at ho'
  injection ho' with ho'
  subst ho';exact RZ.of hi hB hsz yg h3
theorem Fa(n:Nat)(T J:World->Prop)(Eb:World->World->Prop)(brk:Nat)(Rs:List vV){id:Nat}(hm:P.follows .mixedOrders=true)(hB:G5 l n=true)(hn:Rs.length=n)(hsz:((l.take n).filterMap (·.dst)).all (λd=>decide (d<a.tmps.size))=true)
  (hT1:∀w1 w2,T w1->Below w1.heap.size w1 w2->T w2) (hT2:∀w1 w2,T w1->Eb w1 w2->T w2) (hJ:∀w1 w2,J w1->Below w1.heap.size w1 w2->J w2) (hT0:T w.drew) (hJ0:J w.drew)
  (hops:iW P l n Rs a T J Eb brk 0 (l.take n) Rs) (hend:∀f w',T w'->TA Rs f w'->wpList P l.toArray Q (l.drop n) (kG a (l.take n) f) w'):(Code.region id l.toArray true).wp P Q a w:=
 zh hm (jcM n T J Eb brk Rs hB hn hsz hT1 hT2 hJ hT0 hJ0 hops hend)
section
variable {Rs:List vV} {T J:World→Prop} {Eb:World→World→Prop} {brk:Nat}
theorem mX.val{i d:Nat}{o:Oper}{c:Value}(hi:l[i]?=some o)(ho:o.dst=some d)(hne:i≠brk)
  (h:∀g w',T w'->(∀d,((l.take n).filterMap (·.dst)).contains d=false->g d=a.tmps.getD d undef)->Iz n (atR Rs) g w' o->(execOp (UZ g) o).run P w'=.ok (.value c) w'):
  mX P l n Rs a T J Eb brk i o (λg _=>g d=c):=by
 refine⟨λ_ _ _ h _=>h,λ_ _ _ _ h _=>h,λg g' _ he h=>(he i o d (JD.self i) hi ho).symm.trans h,λg w' hb _ hout hd=>?_⟩
 unfold iT;rw[h g w' hb hout hd];refine⟨?_,.inl ⟨hne,aj _ _⟩⟩
 rw[ho];unfold qI upd;simp
theorem mX.one{i d:Nat}{o:Oper}{p:Value->World->Prop}(hi:l[i]?=some o)(ho:o.dst=some d)(hne:i≠brk)(hst:∀v w1 w2,p v w1->Below w1.heap.size w1 w2->p v w2)(hst2:∀v w1 w2,p v w1->Eb w1 w2->p v w2)
  (h:∀g w',T w'->(∀d,((l.take n).filterMap (·.dst)).contains d=false->g d=a.tmps.getD d undef)->Iz n (atR Rs) g w' o->iT P o (UZ g) w' λv w''=>p v w''/\Below w'.heap.size w' w''):
  mX P l n Rs a T J Eb brk i o (λg w=>p (g d) w):=by
 refine⟨λg w1 w2 h hb=>hst _ _ _ h hb,λ_ g w1 w2 h hb=>hst2 _ _ _ h hb,λg g' w1 he h=>?_,λg w' hb _ hout hd=>?_⟩
 ·show p (g' d) w1;rw[<- he i o d (JD.self i) hi ho];exact h
 ·have h1:=h g w' hb hout hd;rw[ho];have e:∀v,qI g (some d) v d=v:=λv=>by unfold qI upd;simp
  simp only[e];exact iT.mono (λv w'' h=>⟨h.1,.inl ⟨hne,h.2⟩⟩) h1
end
end
end Wh
