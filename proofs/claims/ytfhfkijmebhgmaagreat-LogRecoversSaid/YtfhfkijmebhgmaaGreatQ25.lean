/- Texts of the claim, joined. -/
import Derived.Test.YtfhfkijmebhgmaaGreatQ23
set_option maxHeartbeats 20000000
set_option maxRecDepth 100000
namespace Wh
open Go Go.RowKit
section
variable {P:Program} {l:List Oper} {n:Nat} {R:Nat→Nat→(Nat→Value)→World→Prop} {Q:Exit→Act→World→Prop} {a:Act} {w:World}
def TM(b1 b2:Nat)(dJ:Array Bool):Nat:=(if dJ.getD b1 false=true then 1 else 0)+(if dJ.getD b2 false=true then 1 else 0)
def zM(b1 b2 i ph:Nat):Nat:=if i=b1 then 1 else if i=b2 then 2 else ph
def bkN(b1 b2 k:Nat):Nat:=if k=0 then b1 else b2
def Xr(P:Program)(l:List Oper)(n:Nat)(R:Nat->Nat->(Nat->Value)->World->Prop)(Q:Exit->Act->World->Prop)(a:Act)(T:World->Prop)(Eb:Nat->World->World->Prop)(b1 b2 i:Nat)(o:Oper):Prop:=
 ∀ph f w',T w'->(i=b1->ph=0)->(i=b2->ph=1)->Iz n (R ph) f w' o->
  o.wp P (kG a (l.take n) f) w' (λa' w''=>∃v,a'=(kG a (l.take n) f).put o.dst v/\R (zM b1 b2 i ph) i (qI f o.dst v) w''/\((i≠b1/\i≠b2/\Below w'.heap.size w' w'')\/(i=b1/\Eb 0 w' w'')\/(i=b2/\Eb 1 w' w''))) Q
theorem jhD{T:World->Prop}{Eb:Nat->World->World->Prop}{b1 b2:Nat}(BG:b1≠b2)(h1n:b1<n)(h2n:b2<n)(hw:∀o,l[b2]?=some o->∃e∈o.after,Region.binds .any e=true/\e.on=b1)(hT1:∀w1 w2,T w1->Below w1.heap.size w1 w2->T w2)(hT2:∀k w1 w2,T w1->Eb k w1 w2->T w2)(hle:n<=l.length)(NU:∀dJ,HeadInv .any l.toArray n dJ->∀i,i<n->dJ.getD i true=false->∀t,n<=t->t ∉ Region.ready .any l.toArray dJ)(hseq:Region.seqB .any l.toArray (l.length - n) n (KU l.length n)=true)
  (hg:∀i o,i<n->l[i]?=some o->o.guard=none) (hnd:((l.take n).filterMap (·.dst)).Nodup) (yw:∀i o,i<n->l[i]?=some o->∀e∈o.after,Region.binds .any e=true->e.on<i)
  (hst:∀ph i g w1 w2,R ph i g w1->Below w1.heap.size w1 w2->R ph i g w2) (hst2:∀k i g w1 w2,k<=1->i≠bkN b1 b2 k->R k i g w1->Eb k w1 w2->R (k+1) i g w2) (yg:∀ph i g g' w,(∀j o d,JD l j i->l[j]?=some o->o.dst=some d->g d=g' d)->R ph i g w->R ph i g' w) (AV:∀i o,i<n->l[i]?=some o->Xr P l n R Q a T Eb b1 b2 i o)
  (hend:∀f w',T w'->(∀i,i<n->R 2 i f w')->wpList P l.toArray Q (l.drop n) (kG a (l.take n) f) w'):
  ∀(k:Nat) (dJ:Array Bool) (f:Nat->Value) (w':World),HeadInv .any l.toArray n dJ->Sj dJ n=k->T w'->(∀i,i<n->dJ.getD i false=true->R (TM b1 b2 dJ) i f w')->
   wpAny P .any l.toArray Q (k+(l.length - n)) dJ (kG a (l.take n) f) w'
 |0,dJ,f,w',inv,hk,hb,hR=>by
  have hsz:dJ.size=l.length:=by rw[inv.size];simp
  have he:dJ=KU l.length n:=by
   apply nO;intro i;unfold KU;rw[sH]
   simp only[tK];by_cases hi:i<n
   ·rw[aB hi];have h1:=D9 hk hi;have h2:i<dJ.size:=by omega
    simp[hi,h2,Array.getD]at h1 ⊢
    exact h1
   ·rw[ay hi];by_cases hl:i<l.length
    ·have h1:=inv.tail i (by omega) (by simpa using hl)
     have h2:i<dJ.size:=by omega
     have h3:i - n<l.length - n:=by omega
     simp[h2,h3,Array.getD]at h1 ⊢
     exact h1
    ·rw[fZ (by omega),fZ (by simp;omega)]
  have hd:l.length - n=(l.drop n).length:=by simp
  have h3:TM b1 b2 dJ=2:=by
   have key:∀b,b<n->dJ.getD b false=true:=λb hb=>by
    have h1:=D9 hk hb;have h2:b<dJ.size:=by omega
    simp[h2,Array.getD]at h1 ⊢
    exact h1
   unfold TM;rw[aB (key _ h1n),aB (key _ h2n)]
  rw[h3]at hR
  rw[eY,hd];refine wpAny_of_seq (l.drop n) n dJ _ w' (λj=>by simp) (by rw[he,<- hd];exact hseq) (hend f w' hb λi hin=>hR i hin ?_)
  have h1:=D9 hk hin;have h2:i<dJ.size:=by omega
  simp[h2,Array.getD]at h1 ⊢
  exact h1
 |k+1,dJ,f,w',inv,hk,hb,hR=>by
  have hsz:dJ.size=l.length:=by rw[inv.size];simp
  obtain⟨i0,hi0,hu0⟩:=UL (show 0<Sj dJ n by omega)
  have hne:∀i,i<n->dJ.getD i true=false->Region.ready .any l.toArray dJ≠[]:=by
   intro i;induction i using Nat.strongRecOn with
   |_ i ih=>
    intro hin hu;have hil:i<l.length:=by omega
    by_cases kE:∀e∈(l[i]).after,Region.binds .any e=true->dJ.getD e.on false=true
    ·have:i∈Region.ready .any l.toArray dJ:=nR.2 ⟨hu,l[i],by simp[hil],kE⟩
     intro h0;rw[h0]at this
     cases this
    ·simp only[tJ]at kE
     obtain⟨e,he,hbd,hno⟩:=kE;have hlt:=yw i l[i] hin (by simp[hil]) e he hbd
     exact ih e.on hlt (by omega) (getD_in (by omega) (by simpa using hno))
  rw[show k+1+(l.length - n)=(k+(l.length - n))+1 by omega]
  refine⟨λh0=>absurd h0 (hne i0 hi0 hu0),λi hi=>?_⟩
  have hin:i<n:=by
   rcases rO i n with h|h
   ·exact h
   ·exact absurd hi (NU dJ inv i0 hi0 hu0 i h)
  obtain⟨hu,o,ho,kE⟩:=nR.1 hi;have ho':l[i]?=some o:=by simpa using ho
  have hgd:=hg i o hin ho';have hoff:i=b1->dJ.getD b1 false=false/\dJ.getD b2 false=false:=λe=>by
   have h1:dJ.getD b1 false=false:=by rw[<- e];exact getD_both hu
   refine⟨h1,?_⟩
   cases h2:dJ.getD b2 false
   ·rfl
   ·have hl2:b2<l.length:=by omega
    obtain⟨e',he',hbd,hon⟩:=hw l[b2] (by simp[hl2])
    have:=inv.closed b2 l[b2] (by simp[hl2]) h2 e' he' hbd
    rw[hon,h1]at this
    cases this
  have jbV:i=b2->dJ.getD b1 false=true/\dJ.getD b2 false=false:=λe=>by
   have h2:dJ.getD b2 false=false:=by rw[<- e];exact getD_both hu
   obtain⟨e',he',hbd,hon⟩:=hw o (by rw[<- e];exact ho')
   have:=kE e' he' hbd;rw[hon]at this
   exact⟨this,h2⟩
  have jbQ:i=b1->TM b1 b2 dJ=0:=λe=>by
   obtain⟨h1,h2⟩:=hoff e;unfold TM;rw[h1,h2];rfl
  have jbP:i=b2->TM b1 b2 dJ=1:=λe=>by
   obtain⟨h1,h2⟩:=jbV e;unfold TM;rw[h1,h2];rfl
  have h1:=AV i o hin ho' (TM b1 b2 dJ) f w' hb jbQ jbP λe he hbd hen=>hR e.on hen (kE e he hbd)
  unfold wpOp;simp only[ho];rw[aB (by simp[Region.wanted,hgd])]
  refine .inl (oD ?_ h1)
  rintro a' w'' ⟨v,rfl,hv,hbw⟩;have hcount:Sj (dJ.setIfInBounds i true) n=k:=by
   have:=UK hu n;rw[aB hin]at this
   omega
  have hb2:T w'':=by
   rcases hbw with⟨_,_,hbw⟩|⟨_,hbw⟩|⟨_,hbw⟩
   ·exact hT1 _ _ hb hbw
   ·exact hT2 _ _ _ hb hbw
   ·exact hT2 _ _ _ hb hbw
  have Z4:TM b1 b2 (dJ.setIfInBounds i true)=zM b1 b2 i (TM b1 b2 dJ):=by
   unfold TM zM;by_cases e1:i=b1
   ·obtain⟨q1,q2⟩:=hoff e1;subst e1;rw[BK false (II hu),kT false BG,q2];simp
   ·by_cases e2:i=b2
    ·obtain⟨q1,q2⟩:=jbV e2;subst e2;rw[BK false (II hu),kT false e1,q1];simp[e1]
    ·rw[kT false e1,kT false e2,ay e1,ay e2]
  have MG:∀j k,JD l j k->k<n->dJ.getD k false=true->j<n/\dJ.getD j false=true:=by
   intro j k h;induction h with
   |self=>exact λh1 h2=>⟨h1,h2⟩
   |dP ho he hbd hon _ ih=>
    intro h1 h2;subst hon;have:=yw _ _ h1 ho _ he hbd;exact ih (by omega) (inv.closed _ _ (by simpa using ho) h2 _ he hbd)
  have bK:(kG a (l.take n) f).put o.dst v=kG a (l.take n) (qI f o.dst v):=by
   cases hdst:o.dst with
   |none=>rfl
   |some d0=>
    unfold kG Act.put qI;simp only;rw[Pj (Eo ho' hin hdst)]
  rw[bK];refine jhD BG h1n h2n hw hT1 hT2 hle NU hseq hg hnd yw hst hst2 yg AV hend k _ (qI f o.dst v) w'' (inv.set hi hin) hcount hb2 λj hjn hl=>?_
  rw[Z4];by_cases hij:i=j
  ·subst hij;exact hv
  ·rw[kT false hij]at hl
   refine yg _ j f _ _ (λj' oj d haj hoj hd=>?_) (by
    rcases hbw with⟨hne,hne2,hbw⟩|⟨he,hbw⟩|⟨he,hbw⟩
    ·unfold zM;rw[ay hne,ay hne2];exact hst _ _ _ _ _ (hR j hjn hl) hbw
    ·have h0:=hR j hjn hl;rw[jbQ he]at h0
     unfold zM;rw[aB he];exact hst2 0 _ _ _ _ (by omega) (λe=>hij (by rw[e];exact he)) h0 hbw
    ·have h0:=hR j hjn hl;rw[jbP he]at h0
     unfold zM;rw[ay (λe=>BG (e.symm.trans he)),aB he]
     exact hst2 1 _ _ _ _ (by omega) (λe=>hij (by rw[e];exact he)) h0 hbw)
   obtain⟨jd2,Wu⟩:=MG _ _ haj hjn hl;cases hdst:o.dst with
   |none=>rfl
   |some d0=>
    have hne:i≠j':=λe=>by
     subst e;rw[getD_both hu]at Wu
     cases Wu
    have hdd:=jat hnd ho' hin hdst hoj jd2 hd hne;unfold qI upd;simp only;rw[ay (λe=>hdd e.symm)]
theorem Zl(n:Nat)(T:World->Prop)(Eb:Nat->World->World->Prop)(b1 b2:Nat)(BG:b1≠b2)(h1n:b1<n)(h2n:b2<n)(hw:∀o,l[b2]?=some o->∃e∈o.after,Region.binds .any e=true/\e.on=b1)(R:Nat->Nat->(Nat->Value)->World->Prop){id:Nat}(hm:P.follows .mixedOrders=true)(hB:G5 l n=true)(hT1:∀w1 w2,T w1->Below w1.heap.size w1 w2->T w2)(hT2:∀k w1 w2,T w1->Eb k w1 w2->T w2)(hT0:T w.drew)
  (hst:∀ph i g w1 w2,R ph i g w1->Below w1.heap.size w1 w2->R ph i g w2) (hst2:∀k i g w1 w2,k<=1->i≠bkN b1 b2 k->R k i g w1->Eb k w1 w2->R (k+1) i g w2)
  (yg:∀ph i g g' w,(∀j o d,JD l j i->l[j]?=some o->o.dst=some d->g d=g' d)->R ph i g w->R ph i g' w) (AV:∀i o,i<n->l[i]?=some o->Xr P l n R Q a T Eb b1 b2 i o)
  (hend:∀f w',T w'->(∀i,i<n->R 2 i f w')->wpList P l.toArray Q (l.drop n) (kG a (l.take n) f) w'):(Code.region id l.toArray true).wp P Q a w:=by
 simp only[G5,bG,fV,bD,aX]at hB
 obtain⟨⟨⟨⟨hww,hseq⟩,hg⟩,hnd⟩,yw⟩:=hB;have hle:n<=l.length:=by rcases hww with h|h<;>omega
 have hat:∀i o,i<n->l[i]?=some o->o∈l.take n:=λi o hin hi=>by
  rw[pW];exact⟨i,by rw[gJ];simp[hin,hi]⟩
 refine zh hm ?_
 have H:=jhD (P:=P) (Q:=Q) (a:=a) BG h1n h2n hw hT1 hT2 hle ?_ hseq (λi o hin hi=>by simpa using hg o (hat i o hin hi)) hnd ?_ hst hst2 yg AV hend n (Array.replicate l.toArray.size false) (λd=>a.tmps.getD d undef) w.drew
  ⟨by simp,λj oj _ hl=>(by rw[getD_replicate_false]at hl;cases hl),λt _ ht=>getD_in (by simpa using ht) (getD_replicate_false _ _)⟩ ?_ hT0 (λi _ hl=>by rw[getD_replicate_false]at hl;cases hl)
 ·have e:kG a (l.take n) (λd=>a.tmps.getD d undef)=a:=by
   unfold kG;rw[MJ]
  rw[e]at H
  have hs:n+(l.length - n)=l.toArray.size:=by simp;omega
  rw[hs]at H
  exact H
 ·intro dJ inv i hin hu t ht hr;rcases hww with h|⟨⟨h1,h2⟩,h3⟩
  ·obtain⟨_,o,ho,_⟩:=nR.1 hr;have:=(bJ.1 ho).1
   simp at this
   omega
  ·exact tail_waits h2 h3 (by simpa using h1) inv (n - i) i rfl hin hu t ht hr
 ·intro i o hin hi e he hbd;have:=yw i (gZ.2 hin);rw[hi]at this
  simp only[iH,jl,iU,fV,kS,bD]at this
  rcases this e he with h|h
  ·rw[h]at hbd;cases hbd
  ·exact h
 ·have key:∀m,m<=l.length->Sj (Array.replicate l.toArray.size false) m=m:=by
   intro m;induction m with
   |zero=>intro _;rfl
   |succ m ih=>
    intro hm;have:=ih (by omega)
    unfold Sj at this ⊢
    have hml:m<l.length:=by omega
    rw[lJ,pG,this];simp[hml]
  exact key n hle
theorem Xr.of{T:World->Prop}{Eb:Nat->World->World->Prop}{b1 b2:Nat}{i:Nat}{o:Oper}(hi:i<n)(hB:G5 l n=true)(hsz:((l.take n).filterMap (·.dst)).all (λd=>decide (d<a.tmps.size))=true)
  (yg:∀ph i g g' w,(∀j o d,JD l j i->l[j]?=some o->o.dst=some d->g d=g' d)->R ph i g w->R ph i g' w)
  (h:∀ph (g:Nat->Value) w',T w'->(i=b1->ph=0)->(i=b2->ph=1)->(∀d,((l.take n).filterMap (·.dst)).contains d=false->g d=a.tmps.getD d undef)->Iz n (R ph) g w' o->iT P o (UZ g) w' λv w''=>R (zM b1 b2 i ph) i (qI g o.dst v) w''/\((i≠b1/\i≠b2/\Below w'.heap.size w' w'')\/(i=b1/\Eb 0 w' w'')\/(i=b2/\Eb 1 w' w''))):
  Xr P l n R Q a T Eb b1 b2 i o:=by
 simp only[G5,bG,fV,bD,aX]at hB
 obtain⟨_,yw⟩:=hB;have QD:∀k oe,k<n->l[k]?=some oe->∀e∈oe.after,Region.binds .any e=true->e.on<k:=λk oe hk hoe e he hbd=>by
  have:=yw k (gZ.2 hk);rw[hoe]at this
  simp only[iH,jl,iU,fV,kS,bD]at this
  rcases this e he with h|h
  ·rw[h]at hbd;cases hbd
  ·exact h
 have MG:∀j k,JD l j k->k<n->j<n:=by
  intro j k h;induction h with
  |self=>exact id
  |dP ho he hbd hon _ ih=>
   intro h1;subst hon;have:=QD _ _ h1 ho _ he hbd;exact ih (by omega)
 have hsz':∀d∈(l.take n).filterMap (·.dst),d<a.tmps.size:=λd hd=>by
  have:=aX.1 hsz d hd;simpa using this
 intro ph f w' hb hj hj2 hd;have hg:∀d∈(l.take n).filterMap (·.dst),(kG a (l.take n) f).tmps.getD d undef=f d:=λd hd=>by
  have h1:=zV ((l.take n).filterMap (·.dst)) f a.tmps d
  rw[aB (hsz' d hd),aB hd]at h1
  unfold kG;simp only[ji,h1,jl]
 have ho:∀d,((l.take n).filterMap (·.dst)).contains d=false->(kG a (l.take n) f).tmps.getD d undef=a.tmps.getD d undef:=λd hd=>by
  have h1:=zV ((l.take n).filterMap (·.dst)) f a.tmps d
  have h2:d ∉ (l.take n).filterMap (·.dst):=by simpa using hd
  rw[ay h2]at h1
  unfold kG;simp only[ji,h1];by_cases hl:d<a.tmps.size
  ·rw[aB hl]
  ·rw[ay hl,fZ (qK hl)]
 have key:=h ph (λd=>(kG a (l.take n) f).tmps.getD d undef) w' hb hj hj2 ho (λe he hbd hen=>yg _ e.on f _ _ (λj oj d haj hoj hdj=>(hg d (Eo hoj (MG _ _ haj hen) hdj)).symm) (hd e he hbd hen))
 rw[<- RJ]at key
 refine oD ?_ key.wp
 rintro a' w'' ⟨v,rfl,hr,hbw⟩;refine⟨v,rfl,yg _ i _ _ _ (λj oj d haj hoj hdj=>?_) hr,hbw⟩
 have hjn:=MG _ _ haj hi;have hmem:=Eo hoj hjn hdj;cases hdst:o.dst with
 |none=>exact hg d hmem
 |some d0=>
  unfold qI upd;simp only;split
  ·rfl
  ·exact hg d hmem
def U2(Rs:List (Nat->vV))(ph:Nat)(i:Nat):vV:=Rs.getD i (λ_ _ _=>True) ph
def H9(P:Program)(l:List Oper)(n:Nat)(Rs:List (Nat->vV))(a:Act)(T:World->Prop)(Eb:Nat->World->World->Prop)(b1 b2 i:Nat)(o:Oper)(p:Nat->vV):Prop:=
 (∀ph g w1 w2,p ph g w1->Below w1.heap.size w1 w2->p ph g w2)/\(∀k,k<=1->i≠bkN b1 b2 k->∀g w1 w2,p k g w1->Eb k w1 w2->p (k+1) g w2)/\(∀ph g g' w,(∀j o d,JD l j i->l[j]?=some o->o.dst=some d->g d=g' d)->p ph g w->p ph g' w)/\
 ∀ph g w',T w'->(i=b1->ph=0)->(i=b2->ph=1)->(∀d,((l.take n).filterMap (·.dst)).contains d=false->g d=a.tmps.getD d undef)->Iz n (U2 Rs ph) g w' o->
  iT P o (UZ g) w' λv w''=>p (zM b1 b2 i ph) (qI g o.dst v) w''/\((i≠b1/\i≠b2/\Below w'.heap.size w' w'')\/(i=b1/\Eb 0 w' w'')\/(i=b2/\Eb 1 w' w''))
def BZ(P:Program)(l:List Oper)(n:Nat)(Rs:List (Nat->vV))(a:Act)(T:World->Prop)(Eb:Nat->World->World->Prop)(b1 b2:Nat):Nat->List Oper->List (Nat->vV)->Prop
 |_,[],_=>True
 |_,_::_,[]=>False
 |i,o::r,p::ps=>H9 P l n Rs a T Eb b1 b2 i o p/\BZ P l n Rs a T Eb b1 b2 (i+1) r ps
section
variable {Rs:List (Nat→vV)} {T:World→Prop} {Eb:Nat→World→World→Prop} {b1 b2:Nat}
theorem BZ.at:∀ {r:List Oper} {ps:List (Nat->vV)} {k:Nat},BZ P l n Rs a T Eb b1 b2 k r ps->∀ {j:Nat} {o:Oper},r[j]?=some o->H9 P l n Rs a T Eb b1 b2 (k+j) o (ps.getD j (λ_ _ _=>True))
 |[],_,_,_,_,_,h=>by simp at h
 |_::_,[],_,h,_,_,_=>h.elim
 |x::r,p::ps,k,h,0,o,hj=>by
  simp at hj
  subst hj;exact h.1
 |x::r,p::ps,k,h,j+1,o,hj=>by
  have:=BZ.at h.2 (j:=j) (o:=o) (by simpa using hj)
  rw[show k+1+j=k+(j+1)by omega]at this
  simpa using this
theorem BZ.nil{i:Nat}{ps:List (Nat->vV)}:BZ P l n Rs a T Eb b1 b2 i [] ps:=by cases ps<;>trivial
theorem BZ.cons{i:Nat}{o:Oper}{r:List Oper}{p:Nat->vV}{ps:List (Nat->vV)}(h:H9 P l n Rs a T Eb b1 b2 i o p)(h':BZ P l n Rs a T Eb b1 b2 (i+1) r ps):BZ P l n Rs a T Eb b1 b2 i (o::r) (p::ps):=⟨h,h'⟩
end
theorem U5(n:Nat)(T:World->Prop)(Eb:Nat->World->World->Prop)(b1 b2:Nat)(BG:b1≠b2)(h1n:b1<n)(h2n:b2<n)(hw:∀o,l[b2]?=some o->∃e∈o.after,Region.binds .any e=true/\e.on=b1)(Rs:List (Nat->vV)){id:Nat}(hm:P.follows .mixedOrders=true)(hB:G5 l n=true)(hn:Rs.length=n)(hsz:((l.take n).filterMap (·.dst)).all (λd=>decide (d<a.tmps.size))=true)
  (hT1:∀w1 w2,T w1->Below w1.heap.size w1 w2->T w2) (hT2:∀k w1 w2,T w1->Eb k w1 w2->T w2) (hT0:T w.drew)
  (hops:BZ P l n Rs a T Eb b1 b2 0 (l.take n) Rs) (hend:∀f w',T w'->TA (Rs.map λp=>p 2) f w'->wpList P l.toArray Q (l.drop n) (kG a (l.take n) f) w'):(Code.region id l.toArray true).wp P Q a w:=by
 have hle:n<=l.length:=by
  have:=hB;simp only[G5,bG,fV,bD]at this
  rcases this.1.1.1.1 with h|h<;>omega
 have hat:∀i,i<n->∃o,l[i]?=some o/\H9 P l n Rs a T Eb b1 b2 i o (λph=>U2 Rs ph i):=λi hi=>by
  have hil:i<l.length:=by omega
  refine⟨l[i],by simp[hil],?_⟩
  have:=hops.at (j:=i) (o:=l[i]) (by rw[gJ];simp[hi,hil])
  rwa [eY]at this
 have NV:∀ph i g w,¬i<n->U2 Rs ph i g w:=λph i g w hi=>by
  unfold U2;rw[dU,kZ (by omega)]
  trivial
 have yg:∀ph i g g' w,(∀j o d,JD l j i->l[j]?=some o->o.dst=some d->g d=g' d)->U2 Rs ph i g w->U2 Rs ph i g' w:=λph i g g' w1 he h=>by
  by_cases hi:i<n
  ·obtain⟨o,_,_,_,h2,_⟩:=hat i hi;exact h2 ph g g' w1 he h
  ·exact NV ph i g' w1 hi
 refine Zl n T Eb b1 b2 BG h1n h2n hw (U2 Rs) hm hB hT1 hT2 hT0 (λph i g w1 w2 h hb=>?_) (λk i g w1 w2 hk hne h hb=>?_) yg (λi o hi ho=>?_) (λf w' hb hR=>hend f w' hb (TA.of λi hi=>?_))
 ·by_cases hi:i<n
  ·obtain⟨o,_,h1,_⟩:=hat i hi;exact h1 ph g w1 w2 h hb
  ·exact NV ph i g w2 hi
 ·by_cases hi:i<n
  ·obtain⟨o,_,_,h1,_⟩:=hat i hi;exact h1 k hk hne g w1 w2 h hb
  ·exact NV (k+1) i g w2 hi
 ·obtain⟨o',ho',_,_,_,h3⟩:=hat i hi;rw[ho]at ho'
  injection ho' with ho'
  subst ho';exact Xr.of hi hB hsz yg h3
 ·rw[fU,hn]at hi
  have h:=hR i hi;have hl:i<Rs.length:=by omega
  simp only[U2,atR,dU,iZ,bf hl,iH,jl]at h ⊢
  exact h
section
variable {Rs:List (Nat→vV)} {T:World→Prop} {Eb:Nat→World→World→Prop} {b1 b2:Nat}
theorem H9.val{i d:Nat}{o:Oper}{c:Value}(hi:l[i]?=some o)(ho:o.dst=some d)(hne:i≠b1)(hne2:i≠b2)
  (h:∀ph g w',T w'->(∀d,((l.take n).filterMap (·.dst)).contains d=false->g d=a.tmps.getD d undef)->Iz n (U2 Rs ph) g w' o->(execOp (UZ g) o).run P w'=.ok (.value c) w'):
  H9 P l n Rs a T Eb b1 b2 i o (λ_ g _=>g d=c):=by
 refine⟨λ_ _ _ _ h _=>h,λ_ _ _ _ _ _ h _=>h,λ_ g g' _ he h=>(he i o d (JD.self i) hi ho).symm.trans h,λph g w' hb _ _ hout hd=>?_⟩
 unfold iT;rw[h ph g w' hb hout hd];refine⟨?_,.inl ⟨hne,hne2,aj _ _⟩⟩
 rw[ho];unfold qI upd;simp
theorem H9.one{i d:Nat}{o:Oper}{p:Nat->Value->World->Prop}(hi:l[i]?=some o)(ho:o.dst=some d)(hne:i≠b1)(hne2:i≠b2)(hst:∀ph v w1 w2,p ph v w1->Below w1.heap.size w1 w2->p ph v w2)(hst2:∀k v w1 w2,k<=1->p k v w1->Eb k w1 w2->p (k+1) v w2)
  (h:∀ph g w',T w'->(∀d,((l.take n).filterMap (·.dst)).contains d=false->g d=a.tmps.getD d undef)->Iz n (U2 Rs ph) g w' o->iT P o (UZ g) w' λv w''=>p ph v w''/\Below w'.heap.size w' w''):
  H9 P l n Rs a T Eb b1 b2 i o (λph g w=>p ph (g d) w):=by
 refine⟨λph g w1 w2 h hb=>hst _ _ _ _ h hb,λk hk _ g w1 w2 h hb=>hst2 k _ _ _ hk h hb,λph g g' w1 he h=>?_,λph g w' hb _ _ hout hd=>?_⟩
 ·show p ph (g' d) w1;rw[<- he i o d (JD.self i) hi ho];exact h
 ·have h1:=h ph g w' hb hout hd;unfold zM;rw[ho,ay hne,ay hne2];have e:∀v,qI g (some d) v d=v:=λv=>by unfold qI upd;simp
  simp only[e];exact iT.mono (λv w'' h=>⟨h.1,.inl ⟨hne,hne2,h.2⟩⟩) h1
theorem H9.first{d:Nat}{o:Oper}{p:Nat->Value->World->Prop}(hi:l[b1]?=some o)(ho:o.dst=some d)(hst:∀ph v w1 w2,p ph v w1->Below w1.heap.size w1 w2->p ph v w2)(hst2:∀v w1 w2,p 1 v w1->Eb 1 w1 w2->p 2 v w2)
  (h:∀g w',T w'->(∀d,((l.take n).filterMap (·.dst)).contains d=false->g d=a.tmps.getD d undef)->Iz n (U2 Rs 0) g w' o->iT P o (UZ g) w' λv w''=>p 1 v w''/\Eb 0 w' w''):
  H9 P l n Rs a T Eb b1 b2 b1 o (λph g w=>p ph (g d) w):=by
 refine⟨λph g w1 w2 h hb=>hst _ _ _ _ h hb,λk hk hne g w1 w2 h hb=>?_,λph g g' w1 he h=>?_,λph g w' hb Z4 _ hout hd=>?_⟩
 ·rcases(show k=0\/k=1 by omega)with rfl|rfl
  ·exact absurd rfl hne
  ·exact hst2 _ _ _ h hb
 ·show p ph (g' d) w1;rw[<- he b1 o d (JD.self b1) hi ho];exact h
 ·obtain rfl:=Z4 rfl;have h1:=h g w' hb hout hd;have e1:zM b1 b2 b1 0=1:=aB rfl;have e:∀v,qI g (some d) v d=v:=λv=>by unfold qI upd;simp
  rw[ho,e1];refine iT.mono (λv w'' h=>⟨?_,.inr (.inl ⟨rfl,h.2⟩)⟩) h1
  show p 1 (qI g (some d) v d) w'';rw[e];exact h.1
theorem H9.second{o:Oper}{p:(Nat->Value)->World->Prop}(BG:b1≠b2)(ho:o.dst=none)(hst:∀g w1 w2,p g w1->Below w1.heap.size w1 w2->p g w2)
  (yg:∀g g' w,(∀j o d,JD l j b2->l[j]?=some o->o.dst=some d->g d=g' d)->p g w->p g' w)
  (h:∀g w',T w'->(∀d,((l.take n).filterMap (·.dst)).contains d=false->g d=a.tmps.getD d undef)->Iz n (U2 Rs 1) g w' o->iT P o (UZ g) w' λ_ w''=>p g w''/\Eb 1 w' w''):
  H9 P l n Rs a T Eb b1 b2 b2 o (λph g w=>ph=2/\p g w):=by
 refine⟨λph g w1 w2 h hb=>⟨h.1,hst _ _ _ h.2 hb⟩,λk hk hne g w1 w2 h hb=>?_,λph g g' w1 he h=>⟨h.1,yg g g' w1 he h.2⟩,λph g w' hb _ Z4 hout hd=>?_⟩
 ·exact absurd h.1 (by omega)
 ·obtain rfl:=Z4 rfl;have h1:=h g w' hb hout hd;have e1:zM b1 b2 b2 1=2:=by unfold zM;rw[ay (λe=>BG e.symm),aB rfl]
  rw[ho,e1];exact iT.mono (λv w'' h=>⟨⟨rfl,h.1⟩,.inr (.inr ⟨rfl,h.2⟩)⟩) h1
end
end
end Wh
namespace Wh
open Go Go.RowKit
section
variable {P:Program} {l:List Oper} {n:Nat} {R:Nat→Nat→(Nat→Value)→World→Prop} {Q:Exit→Act→World→Prop} {a:Act} {w:World}
def jcO(P:Program)(l:List Oper)(n:Nat)(R:Nat->Nat->(Nat->Value)->World->Prop)(Q:Exit->Act->World->Prop)(a:Act)(T:Nat->World->Prop)(Eb:Nat->World->World->Prop)(b1 b2 i:Nat)(o:Oper):Prop:=
 ∀ph f w',T ph w'->(i=b1->ph=0)->(i=b2->ph=1)->Iz n (R ph) f w' o->
  o.wp P (kG a (l.take n) f) w' (λa' w''=>∃v,a'=(kG a (l.take n) f).put o.dst v/\R (zM b1 b2 i ph) i (qI f o.dst v) w''/\((i≠b1/\i≠b2/\Below w'.heap.size w' w'')\/(i=b1/\Eb 0 w' w'')\/(i=b2/\Eb 1 w' w''))) Q
theorem jeV{T:Nat->World->Prop}{Eb:Nat->World->World->Prop}{b1 b2:Nat}(BG:b1≠b2)(h1n:b1<n)(h2n:b2<n)(hw:∀o,l[b2]?=some o->∃e∈o.after,Region.binds .any e=true/\e.on=b1)(hT1:∀ph w1 w2,T ph w1->Below w1.heap.size w1 w2->T ph w2)(hT2:∀k w1 w2,k<=1->T k w1->Eb k w1 w2->T (k+1) w2)(hle:n<=l.length)(NU:∀dJ,HeadInv .any l.toArray n dJ->∀i,i<n->dJ.getD i true=false->∀t,n<=t->t ∉ Region.ready .any l.toArray dJ)(hseq:Region.seqB .any l.toArray (l.length - n) n (KU l.length n)=true)
  (hg:∀i o,i<n->l[i]?=some o->o.guard=none) (hnd:((l.take n).filterMap (·.dst)).Nodup) (yw:∀i o,i<n->l[i]?=some o->∀e∈o.after,Region.binds .any e=true->e.on<i)
  (hst:∀ph i g w1 w2,R ph i g w1->Below w1.heap.size w1 w2->R ph i g w2) (hst2:∀k i g w1 w2,k<=1->i≠bkN b1 b2 k->R k i g w1->Eb k w1 w2->R (k+1) i g w2) (yg:∀ph i g g' w,(∀j o d,JD l j i->l[j]?=some o->o.dst=some d->g d=g' d)->R ph i g w->R ph i g' w) (AV:∀i o,i<n->l[i]?=some o->jcO P l n R Q a T Eb b1 b2 i o)
  (hend:∀f w',T 2 w'->(∀i,i<n->R 2 i f w')->wpList P l.toArray Q (l.drop n) (kG a (l.take n) f) w'):
  ∀(k:Nat) (dJ:Array Bool) (f:Nat->Value) (w':World),HeadInv .any l.toArray n dJ->Sj dJ n=k->T (TM b1 b2 dJ) w'->(∀i,i<n->dJ.getD i false=true->R (TM b1 b2 dJ) i f w')->
   wpAny P .any l.toArray Q (k+(l.length - n)) dJ (kG a (l.take n) f) w'
 |0,dJ,f,w',inv,hk,hb,hR=>by
  have hsz:dJ.size=l.length:=by rw[inv.size];simp
  have he:dJ=KU l.length n:=by
   apply nO;intro i;unfold KU;rw[sH]
   simp only[tK];by_cases hi:i<n
   ·rw[aB hi];have h1:=D9 hk hi;have h2:i<dJ.size:=by omega
    simp[hi,h2,Array.getD]at h1 ⊢
    exact h1
   ·rw[ay hi];by_cases hl:i<l.length
    ·have h1:=inv.tail i (by omega) (by simpa using hl)
     have h2:i<dJ.size:=by omega
     have h3:i - n<l.length - n:=by omega
     simp[h2,h3,Array.getD]at h1 ⊢
     exact h1
    ·rw[fZ (by omega),fZ (by simp;omega)]
  have hd:l.length - n=(l.drop n).length:=by simp
  have h3:TM b1 b2 dJ=2:=by
   have key:∀b,b<n->dJ.getD b false=true:=λb hb=>by
    have h1:=D9 hk hb;have h2:b<dJ.size:=by omega
    simp[h2,Array.getD]at h1 ⊢
    exact h1
   unfold TM;rw[aB (key _ h1n),aB (key _ h2n)]
  rw[h3]at hR hb
  rw[eY,hd];refine wpAny_of_seq (l.drop n) n dJ _ w' (λj=>by simp) (by rw[he,<- hd];exact hseq) (hend f w' hb λi hin=>hR i hin ?_)
  have h1:=D9 hk hin;have h2:i<dJ.size:=by omega
  simp[h2,Array.getD]at h1 ⊢
  exact h1
 |k+1,dJ,f,w',inv,hk,hb,hR=>by
  have hsz:dJ.size=l.length:=by rw[inv.size];simp
  obtain⟨i0,hi0,hu0⟩:=UL (show 0<Sj dJ n by omega)
  have hne:∀i,i<n->dJ.getD i true=false->Region.ready .any l.toArray dJ≠[]:=by
   intro i;induction i using Nat.strongRecOn with
   |_ i ih=>
    intro hin hu;have hil:i<l.length:=by omega
    by_cases kE:∀e∈(l[i]).after,Region.binds .any e=true->dJ.getD e.on false=true
    ·have:i∈Region.ready .any l.toArray dJ:=nR.2 ⟨hu,l[i],by simp[hil],kE⟩
     intro h0;rw[h0]at this
     cases this
    ·simp only[tJ]at kE
     obtain⟨e,he,hbd,hno⟩:=kE;have hlt:=yw i l[i] hin (by simp[hil]) e he hbd
     exact ih e.on hlt (by omega) (getD_in (by omega) (by simpa using hno))
  rw[show k+1+(l.length - n)=(k+(l.length - n))+1 by omega]
  refine⟨λh0=>absurd h0 (hne i0 hi0 hu0),λi hi=>?_⟩
  have hin:i<n:=by
   rcases rO i n with h|h
   ·exact h
   ·exact absurd hi (NU dJ inv i0 hi0 hu0 i h)
  obtain⟨hu,o,ho,kE⟩:=nR.1 hi;have ho':l[i]?=some o:=by simpa using ho
  have hgd:=hg i o hin ho';have hoff:i=b1->dJ.getD b1 false=false/\dJ.getD b2 false=false:=λe=>by
   have h1:dJ.getD b1 false=false:=by rw[<- e];exact getD_both hu
   refine⟨h1,?_⟩
   cases h2:dJ.getD b2 false
   ·rfl
   ·have hl2:b2<l.length:=by omega
    obtain⟨e',he',hbd,hon⟩:=hw l[b2] (by simp[hl2])
    have:=inv.closed b2 l[b2] (by simp[hl2]) h2 e' he' hbd
    rw[hon,h1]at this
    cases this
  have jbV:i=b2->dJ.getD b1 false=true/\dJ.getD b2 false=false:=λe=>by
   have h2:dJ.getD b2 false=false:=by rw[<- e];exact getD_both hu
   obtain⟨e',he',hbd,hon⟩:=hw o (by rw[<- e];exact ho')
   have:=kE e' he' hbd;rw[hon]at this
   exact⟨this,h2⟩
  have jbQ:i=b1->TM b1 b2 dJ=0:=λe=>by
   obtain⟨h1,h2⟩:=hoff e;unfold TM;rw[h1,h2];rfl
  have jbP:i=b2->TM b1 b2 dJ=1:=λe=>by
   obtain⟨h1,h2⟩:=jbV e;unfold TM;rw[h1,h2];rfl
  have h1:=AV i o hin ho' (TM b1 b2 dJ) f w' hb jbQ jbP λe he hbd hen=>hR e.on hen (kE e he hbd)
  unfold wpOp;simp only[ho];rw[aB (by simp[Region.wanted,hgd])]
  refine .inl (oD ?_ h1)
  rintro a' w'' ⟨v,rfl,hv,hbw⟩;have hcount:Sj (dJ.setIfInBounds i true) n=k:=by
   have:=UK hu n;rw[aB hin]at this
   omega
  have hb2:T (zM b1 b2 i (TM b1 b2 dJ)) w'':=by
   rcases hbw with⟨hne,hne2,hbw⟩|⟨he,hbw⟩|⟨he,hbw⟩
   ·unfold zM;rw[ay hne,ay hne2];exact hT1 _ _ _ hb hbw
   ·rw[jbQ he]at hb
    unfold zM;rw[aB he];exact hT2 0 _ _ (by omega) hb hbw
   ·rw[jbP he]at hb
    unfold zM;rw[ay (λe=>BG (e.symm.trans he)),aB he]
    exact hT2 1 _ _ (by omega) hb hbw
  have Z4:TM b1 b2 (dJ.setIfInBounds i true)=zM b1 b2 i (TM b1 b2 dJ):=by
   unfold TM zM;by_cases e1:i=b1
   ·obtain⟨q1,q2⟩:=hoff e1;subst e1;rw[BK false (II hu),kT false BG,q2];simp
   ·by_cases e2:i=b2
    ·obtain⟨q1,q2⟩:=jbV e2;subst e2;rw[BK false (II hu),kT false e1,q1];simp[e1]
    ·rw[kT false e1,kT false e2,ay e1,ay e2]
  have MG:∀j k,JD l j k->k<n->dJ.getD k false=true->j<n/\dJ.getD j false=true:=by
   intro j k h;induction h with
   |self=>exact λh1 h2=>⟨h1,h2⟩
   |dP ho he hbd hon _ ih=>
    intro h1 h2;subst hon;have:=yw _ _ h1 ho _ he hbd;exact ih (by omega) (inv.closed _ _ (by simpa using ho) h2 _ he hbd)
  have bK:(kG a (l.take n) f).put o.dst v=kG a (l.take n) (qI f o.dst v):=by
   cases hdst:o.dst with
   |none=>rfl
   |some d0=>
    unfold kG Act.put qI;simp only;rw[Pj (Eo ho' hin hdst)]
  rw[bK];refine jeV BG h1n h2n hw hT1 hT2 hle NU hseq hg hnd yw hst hst2 yg AV hend k _ (qI f o.dst v) w'' (inv.set hi hin) hcount (by rw[Z4];exact hb2) λj hjn hl=>?_
  rw[Z4];by_cases hij:i=j
  ·subst hij;exact hv
  ·rw[kT false hij]at hl
   refine yg _ j f _ _ (λj' oj d haj hoj hd=>?_) (by
    rcases hbw with⟨hne,hne2,hbw⟩|⟨he,hbw⟩|⟨he,hbw⟩
    ·unfold zM;rw[ay hne,ay hne2];exact hst _ _ _ _ _ (hR j hjn hl) hbw
    ·have h0:=hR j hjn hl;rw[jbQ he]at h0
     unfold zM;rw[aB he];exact hst2 0 _ _ _ _ (by omega) (λe=>hij (by rw[e];exact he)) h0 hbw
    ·have h0:=hR j hjn hl;rw[jbP he]at h0
     unfold zM;rw[ay (λe=>BG (e.symm.trans he)),aB he]
     exact hst2 1 _ _ _ _ (by omega) (λe=>hij (by rw[e];exact he)) h0 hbw)
   obtain⟨jd2,Wu⟩:=MG _ _ haj hjn hl;cases hdst:o.dst with
   |none=>rfl
   |some d0=>
    have hne:i≠j':=λe=>by
     subst e;rw[getD_both hu]at Wu
     cases Wu
    have hdd:=jat hnd ho' hin hdst hoj jd2 hd hne;unfold qI upd;simp only;rw[ay (λe=>hdd e.symm)]
theorem Xz(n:Nat)(T:Nat->World->Prop)(Eb:Nat->World->World->Prop)(b1 b2:Nat)(BG:b1≠b2)(h1n:b1<n)(h2n:b2<n)(hw:∀o,l[b2]?=some o->∃e∈o.after,Region.binds .any e=true/\e.on=b1)(R:Nat->Nat->(Nat->Value)->World->Prop){id:Nat}(hm:P.follows .mixedOrders=true)(hB:G5 l n=true)(hT1:∀ph w1 w2,T ph w1->Below w1.heap.size w1 w2->T ph w2)(hT2:∀k w1 w2,k<=1->T k w1->Eb k w1 w2->T (k+1) w2)(hT0:T 0 w.drew)
  (hst:∀ph i g w1 w2,R ph i g w1->Below w1.heap.size w1 w2->R ph i g w2) (hst2:∀k i g w1 w2,k<=1->i≠bkN b1 b2 k->R k i g w1->Eb k w1 w2->R (k+1) i g w2)
  (yg:∀ph i g g' w,(∀j o d,JD l j i->l[j]?=some o->o.dst=some d->g d=g' d)->R ph i g w->R ph i g' w) (AV:∀i o,i<n->l[i]?=some o->jcO P l n R Q a T Eb b1 b2 i o)
  (hend:∀f w',T 2 w'->(∀i,i<n->R 2 i f w')->wpList P l.toArray Q (l.drop n) (kG a (l.take n) f) w'):(Code.region id l.toArray true).wp P Q a w:=by
 simp only[G5,bG,fV,bD,aX]at hB
 obtain⟨⟨⟨⟨hww,hseq⟩,hg⟩,hnd⟩,yw⟩:=hB;have hle:n<=l.length:=by rcases hww with h|h<;>omega
 have hat:∀i o,i<n->l[i]?=some o->o∈l.take n:=λi o hin hi=>by
  rw[pW];exact⟨i,by rw[gJ];simp[hin,hi]⟩
 refine zh hm ?_
 have H:=jeV (P:=P) (Q:=Q) (a:=a) BG h1n h2n hw hT1 hT2 hle ?_ hseq (λi o hin hi=>by simpa using hg o (hat i o hin hi)) hnd ?_ hst hst2 yg AV hend n (Array.replicate l.toArray.size false) (λd=>a.tmps.getD d undef) w.drew
  ⟨by simp,λj oj _ hl=>(by rw[getD_replicate_false]at hl;cases hl),λt _ ht=>getD_in (by simpa using ht) (getD_replicate_false _ _)⟩ ?_ (by have e:TM b1 b2 (Array.replicate l.toArray.size false)=0:=(by unfold TM;rw[getD_replicate_false,getD_replicate_false];rfl);rw[e];exact hT0) (λi _ hl=>by rw[getD_replicate_false]at hl;cases hl)
 ·have e:kG a (l.take n) (λd=>a.tmps.getD d undef)=a:=by
   unfold kG;rw[MJ]
  rw[e]at H
  have hs:n+(l.length - n)=l.toArray.size:=by simp;omega
  rw[hs]at H
  exact H
 ·intro dJ inv i hin hu t ht hr;rcases hww with h|⟨⟨h1,h2⟩,h3⟩
  ·obtain⟨_,o,ho,_⟩:=nR.1 hr;have:=(bJ.1 ho).1
   simp at this
   omega
  ·exact tail_waits h2 h3 (by simpa using h1) inv (n - i) i rfl hin hu t ht hr
 ·intro i o hin hi e he hbd;have:=yw i (gZ.2 hin);rw[hi]at this
  simp only[iH,jl,iU,fV,kS,bD]at this
  rcases this e he with h|h
  ·rw[h]at hbd;cases hbd
  ·exact h
 ·have key:∀m,m<=l.length->Sj (Array.replicate l.toArray.size false) m=m:=by
   intro m;induction m with
   |zero=>intro _;rfl
   |succ m ih=>
    intro hm;have:=ih (by omega)
    unfold Sj at this ⊢
    have hml:m<l.length:=by omega
    rw[lJ,pG,this];simp[hml]
  exact key n hle
theorem jcO.of{T:Nat->World->Prop}{Eb:Nat->World->World->Prop}{b1 b2:Nat}{i:Nat}{o:Oper}(hi:i<n)(hB:G5 l n=true)(hsz:((l.take n).filterMap (·.dst)).all (λd=>decide (d<a.tmps.size))=true)
  (yg:∀ph i g g' w,(∀j o d,JD l j i->l[j]?=some o->o.dst=some d->g d=g' d)->R ph i g w->R ph i g' w)
  (h:∀ph (g:Nat->Value) w',T ph w'->(i=b1->ph=0)->(i=b2->ph=1)->(∀d,((l.take n).filterMap (·.dst)).contains d=false->g d=a.tmps.getD d undef)->Iz n (R ph) g w' o->iT P o (UZ g) w' λv w''=>R (zM b1 b2 i ph) i (qI g o.dst v) w''/\((i≠b1/\i≠b2/\Below w'.heap.size w' w'')\/(i=b1/\Eb 0 w' w'')\/(i=b2/\Eb 1 w' w''))):
  jcO P l n R Q a T Eb b1 b2 i o:=by
 simp only[G5,bG,fV,bD,aX]at hB
 obtain⟨_,yw⟩:=hB;have QD:∀k oe,k<n->l[k]?=some oe->∀e∈oe.after,Region.binds .any e=true->e.on<k:=λk oe hk hoe e he hbd=>by
  have:=yw k (gZ.2 hk);rw[hoe]at this
  simp only[iH,jl,iU,fV,kS,bD]at this
  rcases this e he with h|h
  ·rw[h]at hbd;cases hbd
  ·exact h
 have MG:∀j k,JD l j k->k<n->j<n:=by
  intro j k h;induction h with
  |self=>exact id
  |dP ho he hbd hon _ ih=>
   intro h1;subst hon;have:=QD _ _ h1 ho _ he hbd;exact ih (by omega)
 have hsz':∀d∈(l.take n).filterMap (·.dst),d<a.tmps.size:=λd hd=>by
  have:=aX.1 hsz d hd;simpa using this
 intro ph f w' hb hj hj2 hd;have hg:∀d∈(l.take n).filterMap (·.dst),(kG a (l.take n) f).tmps.getD d undef=f d:=λd hd=>by
  have h1:=zV ((l.take n).filterMap (·.dst)) f a.tmps d
  rw[aB (hsz' d hd),aB hd]at h1
  unfold kG;simp only[ji,h1,jl]
 have ho:∀d,((l.take n).filterMap (·.dst)).contains d=false->(kG a (l.take n) f).tmps.getD d undef=a.tmps.getD d undef:=λd hd=>by
  have h1:=zV ((l.take n).filterMap (·.dst)) f a.tmps d
  have h2:d ∉ (l.take n).filterMap (·.dst):=by simpa using hd
  rw[ay h2]at h1
  unfold kG;simp only[ji,h1];by_cases hl:d<a.tmps.size
  ·rw[aB hl]
  ·rw[ay hl,fZ (qK hl)]
 have key:=h ph (λd=>(kG a (l.take n) f).tmps.getD d undef) w' hb hj hj2 ho (λe he hbd hen=>yg _ e.on f _ _ (λj oj d haj hoj hdj=>(hg d (Eo hoj (MG _ _ haj hen) hdj)).symm) (hd e he hbd hen))
 rw[<- RJ]at key
 refine oD ?_ key.wp
 rintro a' w'' ⟨v,rfl,hr,hbw⟩;refine⟨v,rfl,yg _ i _ _ _ (λj oj d haj hoj hdj=>?_) hr,hbw⟩
 have hjn:=MG _ _ haj hi;have hmem:=Eo hoj hjn hdj;cases hdst:o.dst with
 |none=>exact hg d hmem
 |some d0=>
  unfold qI upd;simp only;split
  ·rfl
  ·exact hg d hmem
def Jz(P:Program)(l:List Oper)(n:Nat)(Rs:List (Nat->vV))(a:Act)(T:Nat->World->Prop)(Eb:Nat->World->World->Prop)(b1 b2 i:Nat)(o:Oper)(p:Nat->vV):Prop:=
 (∀ph g w1 w2,p ph g w1->Below w1.heap.size w1 w2->p ph g w2)/\(∀k,k<=1->i≠bkN b1 b2 k->∀g w1 w2,p k g w1->Eb k w1 w2->p (k+1) g w2)/\(∀ph g g' w,(∀j o d,JD l j i->l[j]?=some o->o.dst=some d->g d=g' d)->p ph g w->p ph g' w)/\
 ∀ph g w',T ph w'->(i=b1->ph=0)->(i=b2->ph=1)->(∀d,((l.take n).filterMap (·.dst)).contains d=false->g d=a.tmps.getD d undef)->Iz n (U2 Rs ph) g w' o->
  iT P o (UZ g) w' λv w''=>p (zM b1 b2 i ph) (qI g o.dst v) w''/\((i≠b1/\i≠b2/\Below w'.heap.size w' w'')\/(i=b1/\Eb 0 w' w'')\/(i=b2/\Eb 1 w' w''))
def yJ(P:Program)(l:List Oper)(n:Nat)(Rs:List (Nat->vV))(a:Act)(T:Nat->World->Prop)(Eb:Nat->World->World->Prop)(b1 b2:Nat):Nat->List Oper->List (Nat->vV)->Prop
 |_,[],_=>True
 |_,_::_,[]=>False
 |i,o::r,p::ps=>Jz P l n Rs a T Eb b1 b2 i o p/\yJ P l n Rs a T Eb b1 b2 (i+1) r ps
section
variable {Rs:List (Nat→vV)} {T:Nat→World→Prop} {Eb:Nat→World→World→Prop} {b1 b2:Nat}
theorem yJ.at:∀ {r:List Oper} {ps:List (Nat->vV)} {k:Nat},yJ P l n Rs a T Eb b1 b2 k r ps->∀ {j:Nat} {o:Oper},r[j]?=some o->Jz P l n Rs a T Eb b1 b2 (k+j) o (ps.getD j (λ_ _ _=>True))
 |[],_,_,_,_,_,h=>by simp at h
 |_::_,[],_,h,_,_,_=>h.elim
 |x::r,p::ps,k,h,0,o,hj=>by
  simp at hj
  subst hj;exact h.1
 |x::r,p::ps,k,h,j+1,o,hj=>by
  have:=yJ.at h.2 (j:=j) (o:=o) (by simpa using hj)
  rw[show k+1+j=k+(j+1)by omega]at this
  simpa using this
theorem yJ.nil{i:Nat}{ps:List (Nat->vV)}:yJ P l n Rs a T Eb b1 b2 i [] ps:=by cases ps<;>trivial
theorem yJ.cons{i:Nat}{o:Oper}{r:List Oper}{p:Nat->vV}{ps:List (Nat->vV)}(h:Jz P l n Rs a T Eb b1 b2 i o p)(h':yJ P l n Rs a T Eb b1 b2 (i+1) r ps):yJ P l n Rs a T Eb b1 b2 i (o::r) (p::ps):=⟨h,h'⟩
end
theorem Nr(n:Nat)(T:Nat->World->Prop)(Eb:Nat->World->World->Prop)(b1 b2:Nat)(BG:b1≠b2)(h1n:b1<n)(h2n:b2<n)(hw:∀o,l[b2]?=some o->∃e∈o.after,Region.binds .any e=true/\e.on=b1)(Rs:List (Nat->vV)){id:Nat}(hm:P.follows .mixedOrders=true)(hB:G5 l n=true)(hn:Rs.length=n)(hsz:((l.take n).filterMap (·.dst)).all (λd=>decide (d<a.tmps.size))=true)
  (hT1:∀ph w1 w2,T ph w1->Below w1.heap.size w1 w2->T ph w2) (hT2:∀k w1 w2,k<=1->T k w1->Eb k w1 w2->T (k+1) w2) (hT0:T 0 w.drew)
  (hops:yJ P l n Rs a T Eb b1 b2 0 (l.take n) Rs) (hend:∀f w',T 2 w'->TA (Rs.map λp=>p 2) f w'->wpList P l.toArray Q (l.drop n) (kG a (l.take n) f) w'):(Code.region id l.toArray true).wp P Q a w:=by
 have hle:n<=l.length:=by
  have:=hB;simp only[G5,bG,fV,bD]at this
  rcases this.1.1.1.1 with h|h<;>omega
 have hat:∀i,i<n->∃o,l[i]?=some o/\Jz P l n Rs a T Eb b1 b2 i o (λph=>U2 Rs ph i):=λi hi=>by
  have hil:i<l.length:=by omega
  refine⟨l[i],by simp[hil],?_⟩
  have:=hops.at (j:=i) (o:=l[i]) (by rw[gJ];simp[hi,hil])
  rwa [eY]at this
 have NV:∀ph i g w,¬i<n->U2 Rs ph i g w:=λph i g w hi=>by
  unfold U2;rw[dU,kZ (by omega)]
  trivial
 have yg:∀ph i g g' w,(∀j o d,JD l j i->l[j]?=some o->o.dst=some d->g d=g' d)->U2 Rs ph i g w->U2 Rs ph i g' w:=λph i g g' w1 he h=>by
  by_cases hi:i<n
  ·obtain⟨o,_,_,_,h2,_⟩:=hat i hi;exact h2 ph g g' w1 he h
  ·exact NV ph i g' w1 hi
 refine Xz n T Eb b1 b2 BG h1n h2n hw (U2 Rs) hm hB hT1 hT2 hT0 (λph i g w1 w2 h hb=>?_) (λk i g w1 w2 hk hne h hb=>?_) yg (λi o hi ho=>?_) (λf w' hb hR=>hend f w' hb (TA.of λi hi=>?_))
 ·by_cases hi:i<n
  ·obtain⟨o,_,h1,_⟩:=hat i hi;exact h1 ph g w1 w2 h hb
  ·exact NV ph i g w2 hi
 ·by_cases hi:i<n
  ·obtain⟨o,_,_,h1,_⟩:=hat i hi;exact h1 k hk hne g w1 w2 h hb
  ·exact NV (k+1) i g w2 hi
 ·obtain⟨o',ho',_,_,_,h3⟩:=hat i hi;rw[ho]at ho'
  injection ho' with ho'
  subst ho';exact jcO.of hi hB hsz yg h3
 ·rw[fU,hn]at hi
  have h:=hR i hi;have hl:i<Rs.length:=by omega
  simp only[U2,atR,dU,iZ,bf hl,iH,jl]at h ⊢
  exact h
section
variable {Rs:List (Nat→vV)} {T:Nat→World→Prop} {Eb:Nat→World→World→Prop} {b1 b2:Nat}
theorem Jz.val{i d:Nat}{o:Oper}{c:Value}(hi:l[i]?=some o)(ho:o.dst=some d)(hne:i≠b1)(hne2:i≠b2)
  (h:∀ph g w',T ph w'->(∀d,((l.take n).filterMap (·.dst)).contains d=false->g d=a.tmps.getD d undef)->Iz n (U2 Rs ph) g w' o->(execOp (UZ g) o).run P w'=.ok (.value c) w'):
  Jz P l n Rs a T Eb b1 b2 i o (λ_ g _=>g d=c):=by
 refine⟨λ_ _ _ _ h _=>h,λ_ _ _ _ _ _ h _=>h,λ_ g g' _ he h=>(he i o d (JD.self i) hi ho).symm.trans h,λph g w' hb _ _ hout hd=>?_⟩
 unfold iT;rw[h ph g w' hb hout hd];refine⟨?_,.inl ⟨hne,hne2,aj _ _⟩⟩
 rw[ho];unfold qI upd;simp
theorem Jz.one{i d:Nat}{o:Oper}{p:Nat->Value->World->Prop}(hi:l[i]?=some o)(ho:o.dst=some d)(hne:i≠b1)(hne2:i≠b2)(hst:∀ph v w1 w2,p ph v w1->Below w1.heap.size w1 w2->p ph v w2)(hst2:∀k v w1 w2,k<=1->p k v w1->Eb k w1 w2->p (k+1) v w2)
  (h:∀ph g w',T ph w'->(∀d,((l.take n).filterMap (·.dst)).contains d=false->g d=a.tmps.getD d undef)->Iz n (U2 Rs ph) g w' o->iT P o (UZ g) w' λv w''=>p ph v w''/\Below w'.heap.size w' w''):
  Jz P l n Rs a T Eb b1 b2 i o (λph g w=>p ph (g d) w):=by
 refine⟨λph g w1 w2 h hb=>hst _ _ _ _ h hb,λk hk _ g w1 w2 h hb=>hst2 k _ _ _ hk h hb,λph g g' w1 he h=>?_,λph g w' hb _ _ hout hd=>?_⟩
 ·show p ph (g' d) w1;rw[<- he i o d (JD.self i) hi ho];exact h
 ·have h1:=h ph g w' hb hout hd;unfold zM;rw[ho,ay hne,ay hne2];have e:∀v,qI g (some d) v d=v:=λv=>by unfold qI upd;simp
  simp only[e];exact iT.mono (λv w'' h=>⟨h.1,.inl ⟨hne,hne2,h.2⟩⟩) h1
theorem Jz.first{d:Nat}{o:Oper}{p:Nat->Value->World->Prop}(hi:l[b1]?=some o)(ho:o.dst=some d)(hst:∀ph v w1 w2,p ph v w1->Below w1.heap.size w1 w2->p ph v w2)(hst2:∀v w1 w2,p 1 v w1->Eb 1 w1 w2->p 2 v w2)
  (h:∀g w',T 0 w'->(∀d,((l.take n).filterMap (·.dst)).contains d=false->g d=a.tmps.getD d undef)->Iz n (U2 Rs 0) g w' o->iT P o (UZ g) w' λv w''=>p 1 v w''/\Eb 0 w' w''):
  Jz P l n Rs a T Eb b1 b2 b1 o (λph g w=>p ph (g d) w):=by
 refine⟨λph g w1 w2 h hb=>hst _ _ _ _ h hb,λk hk hne g w1 w2 h hb=>?_,λph g g' w1 he h=>?_,λph g w' hb Z4 _ hout hd=>?_⟩
 ·rcases(show k=0\/k=1 by omega)with rfl|rfl
  ·exact absurd rfl hne
  ·exact hst2 _ _ _ h hb
 ·show p ph (g' d) w1;rw[<- he b1 o d (JD.self b1) hi ho];exact h
 ·obtain rfl:=Z4 rfl;have h1:=h g w' hb hout hd;have e1:zM b1 b2 b1 0=1:=aB rfl;have e:∀v,qI g (some d) v d=v:=λv=>by unfold qI upd;simp
  rw[ho,e1];refine iT.mono (λv w'' h=>⟨?_,.inr (.inl ⟨rfl,h.2⟩)⟩) h1
  show p 1 (qI g (some d) v d) w'';rw[e];exact h.1
theorem Jz.second{o:Oper}{p:(Nat->Value)->World->Prop}(BG:b1≠b2)(ho:o.dst=none)(hst:∀g w1 w2,p g w1->Below w1.heap.size w1 w2->p g w2)
  (yg:∀g g' w,(∀j o d,JD l j b2->l[j]?=some o->o.dst=some d->g d=g' d)->p g w->p g' w)
  (h:∀g w',T 1 w'->(∀d,((l.take n).filterMap (·.dst)).contains d=false->g d=a.tmps.getD d undef)->Iz n (U2 Rs 1) g w' o->iT P o (UZ g) w' λ_ w''=>p g w''/\Eb 1 w' w''):
  Jz P l n Rs a T Eb b1 b2 b2 o (λph g w=>ph=2/\p g w):=by
 refine⟨λph g w1 w2 h hb=>⟨h.1,hst _ _ _ h.2 hb⟩,λk hk hne g w1 w2 h hb=>?_,λph g g' w1 he h=>⟨h.1,yg g g' w1 he h.2⟩,λph g w' hb _ Z4 hout hd=>?_⟩
 ·exact absurd h.1 (by omega)
 ·obtain rfl:=Z4 rfl;have h1:=h g w' hb hout hd;have e1:zM b1 b2 b2 1=2:=by unfold zM;rw[ay (λe=>BG e.symm),aB rfl]
  rw[ho,e1];exact iT.mono (λv w'' h=>⟨⟨rfl,h.1⟩,.inr (.inr ⟨rfl,h.2⟩)⟩) h1
end
end
end Wh
