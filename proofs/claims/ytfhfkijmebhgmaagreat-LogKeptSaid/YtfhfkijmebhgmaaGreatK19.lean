/- Texts of the claim, joined. -/
import Derived.Test.YtfhfkijmebhgmaaGreatK18
set_option maxHeartbeats 20000000
set_option maxRecDepth 100000
namespace Wh
open Go Go.RowKit
section
variable {P:Program} {l:List Oper} {n:Nat} {R:Nat→Nat→(Nat→Value)→World→Prop} {Q:Exit→Act→World→Prop} {a:Act} {w:World}
def jcO(P:Program)(l:List Oper)(n:Nat)(R:Nat->Nat->(Nat->Value)->World->Prop)(Q:Exit->Act->World->Prop)(a:Act)(T:Nat->World->Prop)(Eb:Nat->World->World->Prop)(b1 b2 i:Nat)(o:Oper):Prop:=
 ∀ph f w',T ph w'->(i=b1->ph=0)->(i=b2->ph=1)->Iz n (R ph) f w' o->
  o.wp P (kG a (l.take n) f) w' (λa' w''=>∃v,a'=(kG a (l.take n) f).put o.dst v/\R (zM b1 b2 i ph) i (qI f o.dst v) w''/\((i≠b1/\i≠b2/\Below w'.heap.size w' w'')\/(i=b1/\Eb 0 w' w'')\/(i=b2/\Eb 1 w' w''))) Q
theorem jeV{T:Nat->World->Prop}{Eb:Nat->World->World->Prop}{b1 b2:Nat}(BG:b1≠b2)(h1n:b1<n)(h2n:b2<n)(hw:∀o,l[b2]?=some o->∃e∈o.after,Region.binds .any e=true/\e.on=b1)(hT1:∀ph w1 w2,T ph w1->Below w1.heap.size w1 w2->T ph w2)(hT2:∀k w1 w2,k<=1->T k w1->Eb k w1 w2->T (k+1) w2)(hle:n<=l.length)(NU:∀dJ,HeadInv .any l.toArray n dJ->∀i,i<n->dJ.getD i true=false->∀t,n<=t->t ∉ Region.ready .any l.toArray dJ)(hseq:Region.seqB .any l.toArray (l.length - n) n (KU l.length n)=true)
  (hg:∀i o,i<n->l[i]?=some o->o.guard=none) (hnd:((l.take n).filterMap (·.dst)).Nodup) (yw:∀i o,i<n->l[i]?=some o->∀e∈o.after,Region.binds .any e=true->e.on<i)
  (hst:∀ph i g w1 w2,R ph i g w1->Below w1.heap.size w1 w2->R ph i g w2) (hst2:∀k i g w1 w2,k<=1->i≠bkN b1 b2 k->R k i g w1->Eb k w1 w2->R (k+1) i g w2) (yg:∀ph i g g' w,(∀j o d,JD l j i->l[j]?=some o->o.dst=some d->g d=g' d)->R ph i g w->R ph i g' w) (AV:∀i o,i<n->l[i]?=some o->jcO P l n R Q a T Eb b1 b2 i o)
  (hend:∀f w',T 2 w'->(∀i,i<n->R 2 i f w')->wpList P l.toArray Q (l.drop n) (kG a (l.take n) f) w'):
  ∀(k:Nat) (dJ:Array Bool) (f:Nat->Value) (w':World),HeadInv .any l.toArray n dJ->Sj dJ n=k->T (TM b1 b2 dJ) w'->(∀i,i<n->dJ.getD i false=true->R (TM b1 b2 dJ) i f w')->
   wpAny P .any l.toArray Q (k+(l.length - n)) dJ (kG a (l.take n) f) w'
 |0,dJ,f,w',inv,hk,hb,hR=>by
  have hsz:dJ.size=l.length:=by rw[inv.size];simp
  have he:dJ=KU l.length n:=by
   apply nO;intro i;unfold KU;rw[sH]
   simp only[tK];by_cases hi:i<n
   ·rw[aB hi];have h1:=D9 hk hi;have h2:i<dJ.size:=by omega
    simp[hi,h2,Array.getD]at h1 ⊢
    exact h1
   ·rw[ay hi];by_cases hl:i<l.length
    ·have h1:=inv.tail i (by omega) (by simpa using hl)
     have h2:i<dJ.size:=by omega
     have h3:i - n<l.length - n:=by omega
     simp[h2,h3,Array.getD]at h1 ⊢
     exact h1
    ·rw[fZ (by omega),fZ (by simp;omega)]
  have hd:l.length - n=(l.drop n).length:=by simp
  have h3:TM b1 b2 dJ=2:=by
   have key:∀b,b<n->dJ.getD b false=true:=λb hb=>by
    have h1:=D9 hk hb;have h2:b<dJ.size:=by omega
    simp[h2,Array.getD]at h1 ⊢
    exact h1
   unfold TM;rw[aB (key _ h1n),aB (key _ h2n)]
  rw[h3]at hR hb
  rw[eY,hd];refine wpAny_of_seq (l.drop n) n dJ _ w' (λj=>by simp) (by rw[he,<- hd];exact hseq) (hend f w' hb λi hin=>hR i hin ?_)
  have h1:=D9 hk hin;have h2:i<dJ.size:=by omega
  simp[h2,Array.getD]at h1 ⊢
  exact h1
 |k+1,dJ,f,w',inv,hk,hb,hR=>by
  have hsz:dJ.size=l.length:=by rw[inv.size];simp
  obtain⟨i0,hi0,hu0⟩:=UL (show 0<Sj dJ n by omega)
  have hne:∀i,i<n->dJ.getD i true=false->Region.ready .any l.toArray dJ≠[]:=by
   intro i;induction i using Nat.strongRecOn with
   |_ i ih=>
    intro hin hu;have hil:i<l.length:=by omega
    by_cases kE:∀e∈(l[i]).after,Region.binds .any e=true->dJ.getD e.on false=true
    ·have:i∈Region.ready .any l.toArray dJ:=nR.2 ⟨hu,l[i],by simp[hil],kE⟩
     intro h0;rw[h0]at this
     cases this
    ·simp only[tJ]at kE
     obtain⟨e,he,hbd,hno⟩:=kE;have hlt:=yw i l[i] hin (by simp[hil]) e he hbd
     exact ih e.on hlt (by omega) (getD_in (by omega) (by simpa using hno))
  rw[show k+1+(l.length - n)=(k+(l.length - n))+1 by omega]
  refine⟨λh0=>absurd h0 (hne i0 hi0 hu0),λi hi=>?_⟩
  have hin:i<n:=by
   rcases rO i n with h|h
   ·exact h
   ·exact absurd hi (NU dJ inv i0 hi0 hu0 i h)
  obtain⟨hu,o,ho,kE⟩:=nR.1 hi;have ho':l[i]?=some o:=by simpa using ho
  have hgd:=hg i o hin ho';have hoff:i=b1->dJ.getD b1 false=false/\dJ.getD b2 false=false:=λe=>by
   have h1:dJ.getD b1 false=false:=by rw[<- e];exact getD_both hu
   refine⟨h1,?_⟩
   cases h2:dJ.getD b2 false
   ·rfl
   ·have hl2:b2<l.length:=by omega
    obtain⟨e',he',hbd,hon⟩:=hw l[b2] (by simp[hl2])
    have:=inv.closed b2 l[b2] (by simp[hl2]) h2 e' he' hbd
    rw[hon,h1]at this
    cases this
  have jbV:i=b2->dJ.getD b1 false=true/\dJ.getD b2 false=false:=λe=>by
   have h2:dJ.getD b2 false=false:=by rw[<- e];exact getD_both hu
   obtain⟨e',he',hbd,hon⟩:=hw o (by rw[<- e];exact ho')
   have:=kE e' he' hbd;rw[hon]at this
   exact⟨this,h2⟩
  have jbQ:i=b1->TM b1 b2 dJ=0:=λe=>by
   obtain⟨h1,h2⟩:=hoff e;unfold TM;rw[h1,h2];rfl
  have jbP:i=b2->TM b1 b2 dJ=1:=λe=>by
   obtain⟨h1,h2⟩:=jbV e;unfold TM;rw[h1,h2];rfl
  have h1:=AV i o hin ho' (TM b1 b2 dJ) f w' hb jbQ jbP λe he hbd hen=>hR e.on hen (kE e he hbd)
  unfold wpOp;simp only[ho];rw[aB (by simp[Region.wanted,hgd])]
  refine .inl (oD ?_ h1)
  rintro a' w'' ⟨v,rfl,hv,hbw⟩;have hcount:Sj (dJ.setIfInBounds i true) n=k:=by
   have:=UK hu n;rw[aB hin]at this
   omega
  have hb2:T (zM b1 b2 i (TM b1 b2 dJ)) w'':=by
   rcases hbw with⟨hne,hne2,hbw⟩|⟨he,hbw⟩|⟨he,hbw⟩
   ·unfold zM;rw[ay hne,ay hne2];exact hT1 _ _ _ hb hbw
   ·rw[jbQ he]at hb
    unfold zM;rw[aB he];exact hT2 0 _ _ (by omega) hb hbw
   ·rw[jbP he]at hb
    unfold zM;rw[ay (λe=>BG (e.symm.trans he)),aB he]
    exact hT2 1 _ _ (by omega) hb hbw
  have Z4:TM b1 b2 (dJ.setIfInBounds i true)=zM b1 b2 i (TM b1 b2 dJ):=by
   unfold TM zM;by_cases e1:i=b1
   ·obtain⟨q1,q2⟩:=hoff e1;subst e1;rw[BK false (II hu),kT false BG,q2];simp
   ·by_cases e2:i=b2
    ·obtain⟨q1,q2⟩:=jbV e2;subst e2;rw[BK false (II hu),kT false e1,q1];simp[e1]
    ·rw[kT false e1,kT false e2,ay e1,ay e2]
  have MG:∀j k,JD l j k->k<n->dJ.getD k false=true->j<n/\dJ.getD j false=true:=by
   intro j k h;induction h with
   |self=>exact λh1 h2=>⟨h1,h2⟩
   |dP ho he hbd hon _ ih=>
    intro h1 h2;subst hon;have:=yw _ _ h1 ho _ he hbd;exact ih (by omega) (inv.closed _ _ (by simpa using ho) h2 _ he hbd)
  have bK:(kG a (l.take n) f).put o.dst v=kG a (l.take n) (qI f o.dst v):=by
   cases hdst:o.dst with
   |none=>rfl
   |some d0=>
    unfold kG Act.put qI;simp only;rw[Pj (Eo ho' hin hdst)]
  rw[bK];refine jeV BG h1n h2n hw hT1 hT2 hle NU hseq hg hnd yw hst hst2 yg AV hend k _ (qI f o.dst v) w'' (inv.set hi hin) hcount (by rw[Z4];exact hb2) λj hjn hl=>?_
  rw[Z4];by_cases hij:i=j
  ·subst hij;exact hv
  ·rw[kT false hij]at hl
   refine yg _ j f _ _ (λj' oj d haj hoj hd=>?_) (by
    rcases hbw with⟨hne,hne2,hbw⟩|⟨he,hbw⟩|⟨he,hbw⟩
    ·unfold zM;rw[ay hne,ay hne2];exact hst _ _ _ _ _ (hR j hjn hl) hbw
    ·have h0:=hR j hjn hl;rw[jbQ he]at h0
     unfold zM;rw[aB he];exact hst2 0 _ _ _ _ (by omega) (λe=>hij (by rw[e];exact he)) h0 hbw
    ·have h0:=hR j hjn hl;rw[jbP he]at h0
     unfold zM;rw[ay (λe=>BG (e.symm.trans he)),aB he]
     exact hst2 1 _ _ _ _ (by omega) (λe=>hij (by rw[e];exact he)) h0 hbw)
   obtain⟨jd2,Wu⟩:=MG _ _ haj hjn hl;cases hdst:o.dst with
   |none=>rfl
   |some d0=>
    have hne:i≠j':=λe=>by
     subst e;rw[getD_both hu]at Wu
     cases Wu
    have hdd:=jat hnd ho' hin hdst hoj jd2 hd hne;unfold qI upd;simp only;rw[ay (λe=>hdd e.symm)]
theorem Xz(n:Nat)(T:Nat->World->Prop)(Eb:Nat->World->World->Prop)(b1 b2:Nat)(BG:b1≠b2)(h1n:b1<n)(h2n:b2<n)(hw:∀o,l[b2]?=some o->∃e∈o.after,Region.binds .any e=true/\e.on=b1)(R:Nat->Nat->(Nat->Value)->World->Prop){id:Nat}(hm:P.follows .mixedOrders=true)(hB:G5 l n=true)(hT1:∀ph w1 w2,T ph w1->Below w1.heap.size w1 w2->T ph w2)(hT2:∀k w1 w2,k<=1->T k w1->Eb k w1 w2->T (k+1) w2)(hT0:T 0 w.drew)
  (hst:∀ph i g w1 w2,R ph i g w1->Below w1.heap.size w1 w2->R ph i g w2) (hst2:∀k i g w1 w2,k<=1->i≠bkN b1 b2 k->R k i g w1->Eb k w1 w2->R (k+1) i g w2)
  (yg:∀ph i g g' w,(∀j o d,JD l j i->l[j]?=some o->o.dst=some d->g d=g' d)->R ph i g w->R ph i g' w) (AV:∀i o,i<n->l[i]?=some o->jcO P l n R Q a T Eb b1 b2 i o)
  (hend:∀f w',T 2 w'->(∀i,i<n->R 2 i f w')->wpList P l.toArray Q (l.drop n) (kG a (l.take n) f) w'):(Code.region id l.toArray true).wp P Q a w:=by
 simp only[G5,bG,fV,bD,aX]at hB
 obtain⟨⟨⟨⟨hww,hseq⟩,hg⟩,hnd⟩,yw⟩:=hB;have hle:n<=l.length:=by rcases hww with h|h<;>omega
 have hat:∀i o,i<n->l[i]?=some o->o∈l.take n:=λi o hin hi=>by
  rw[pW];exact⟨i,by rw[gJ];simp[hin,hi]⟩
 refine zh hm ?_
 have H:=jeV (P:=P) (Q:=Q) (a:=a) BG h1n h2n hw hT1 hT2 hle ?_ hseq (λi o hin hi=>by simpa using hg o (hat i o hin hi)) hnd ?_ hst hst2 yg AV hend n (Array.replicate l.toArray.size false) (λd=>a.tmps.getD d undef) w.drew
  ⟨by simp,λj oj _ hl=>(by rw[getD_replicate_false]at hl;cases hl),λt _ ht=>getD_in (by simpa using ht) (getD_replicate_false _ _)⟩ ?_ (by have e:TM b1 b2 (Array.replicate l.toArray.size false)=0:=(by unfold TM;rw[getD_replicate_false,getD_replicate_false];rfl);rw[e];exact hT0) (λi _ hl=>by rw[getD_replicate_false]at hl;cases hl)
 ·have e:kG a (l.take n) (λd=>a.tmps.getD d undef)=a:=by
   unfold kG;rw[MJ]
  rw[e]at H
  have hs:n+(l.length - n)=l.toArray.size:=by simp;omega
  rw[hs]at H
  exact H
 ·intro dJ inv i hin hu t ht hr;rcases hww with h|⟨⟨h1,h2⟩,h3⟩
  ·obtain⟨_,o,ho,_⟩:=nR.1 hr;have:=(bJ.1 ho).1
   simp at this
   omega
  ·exact tail_waits h2 h3 (by simpa using h1) inv (n - i) i rfl hin hu t ht hr
 ·intro i o hin hi e he hbd;have:=yw i (gZ.2 hin);rw[hi]at this
  simp only[iH,jl,iU,fV,kS,bD]at this
  rcases this e he with h|h
  ·rw[h]at hbd;cases hbd
  ·exact h
 ·have key:∀m,m<=l.length->Sj (Array.replicate l.toArray.size false) m=m:=by
   intro m;induction m with
   |zero=>intro _;rfl
   |succ m ih=>
    intro hm;have:=ih (by omega)
    unfold Sj at this ⊢
    have hml:m<l.length:=by omega
    rw[lJ,pG,this];simp[hml]
  exact key n hle
theorem jcO.of{T:Nat->World->Prop}{Eb:Nat->World->World->Prop}{b1 b2:Nat}{i:Nat}{o:Oper}(hi:i<n)(hB:G5 l n=true)(hsz:((l.take n).filterMap (·.dst)).all (λd=>decide (d<a.tmps.size))=true)
  (yg:∀ph i g g' w,(∀j o d,JD l j i->l[j]?=some o->o.dst=some d->g d=g' d)->R ph i g w->R ph i g' w)
  (h:∀ph (g:Nat->Value) w',T ph w'->(i=b1->ph=0)->(i=b2->ph=1)->(∀d,((l.take n).filterMap (·.dst)).contains d=false->g d=a.tmps.getD d undef)->Iz n (R ph) g w' o->iT P o (UZ g) w' λv w''=>R (zM b1 b2 i ph) i (qI g o.dst v) w''/\((i≠b1/\i≠b2/\Below w'.heap.size w' w'')\/(i=b1/\Eb 0 w' w'')\/(i=b2/\Eb 1 w' w''))):
  jcO P l n R Q a T Eb b1 b2 i o:=by
 simp only[G5,bG,fV,bD,aX]at hB
 obtain⟨_,yw⟩:=hB;have QD:∀k oe,k<n->l[k]?=some oe->∀e∈oe.after,Region.binds .any e=true->e.on<k:=λk oe hk hoe e he hbd=>by
  have:=yw k (gZ.2 hk);rw[hoe]at this
  simp only[iH,jl,iU,fV,kS,bD]at this
  rcases this e he with h|h
  ·rw[h]at hbd;cases hbd
  ·exact h
 have MG:∀j k,JD l j k->k<n->j<n:=by
  intro j k h;induction h with
  |self=>exact id
  |dP ho he hbd hon _ ih=>
   intro h1;subst hon;have:=QD _ _ h1 ho _ he hbd;exact ih (by omega)
 have hsz':∀d∈(l.take n).filterMap (·.dst),d<a.tmps.size:=λd hd=>by
  have:=aX.1 hsz d hd;simpa using this
 intro ph f w' hb hj hj2 hd;have hg:∀d∈(l.take n).filterMap (·.dst),(kG a (l.take n) f).tmps.getD d undef=f d:=λd hd=>by
  have h1:=zV ((l.take n).filterMap (·.dst)) f a.tmps d
  rw[aB (hsz' d hd),aB hd]at h1
  unfold kG;simp only[ji,h1,jl]
 have ho:∀d,((l.take n).filterMap (·.dst)).contains d=false->(kG a (l.take n) f).tmps.getD d undef=a.tmps.getD d undef:=λd hd=>by
  have h1:=zV ((l.take n).filterMap (·.dst)) f a.tmps d
  have h2:d ∉ (l.take n).filterMap (·.dst):=by simpa using hd
  rw[ay h2]at h1
  unfold kG;simp only[ji,h1];by_cases hl:d<a.tmps.size
  ·rw[aB hl]
  ·rw[ay hl,fZ (qK hl)]
 have key:=h ph (λd=>(kG a (l.take n) f).tmps.getD d undef) w' hb hj hj2 ho (λe he hbd hen=>yg _ e.on f _ _ (λj oj d haj hoj hdj=>(hg d (Eo hoj (MG _ _ haj hen) hdj)).symm) (hd e he hbd hen))
 rw[<- RJ]at key
 refine oD ?_ key.wp
 rintro a' w'' ⟨v,rfl,hr,hbw⟩;refine⟨v,rfl,yg _ i _ _ _ (λj oj d haj hoj hdj=>?_) hr,hbw⟩
 have hjn:=MG _ _ haj hi;have hmem:=Eo hoj hjn hdj;cases hdst:o.dst with
 |none=>exact hg d hmem
 |some d0=>
  unfold qI upd;simp only;split
  ·rfl
  ·exact hg d hmem
def Jz(P:Program)(l:List Oper)(n:Nat)(Rs:List (Nat->vV))(a:Act)(T:Nat->World->Prop)(Eb:Nat->World->World->Prop)(b1 b2 i:Nat)(o:Oper)(p:Nat->vV):Prop:=
 (∀ph g w1 w2,p ph g w1->Below w1.heap.size w1 w2->p ph g w2)/\(∀k,k<=1->i≠bkN b1 b2 k->∀g w1 w2,p k g w1->Eb k w1 w2->p (k+1) g w2)/\(∀ph g g' w,(∀j o d,JD l j i->l[j]?=some o->o.dst=some d->g d=g' d)->p ph g w->p ph g' w)/\
 ∀ph g w',T ph w'->(i=b1->ph=0)->(i=b2->ph=1)->(∀d,((l.take n).filterMap (·.dst)).contains d=false->g d=a.tmps.getD d undef)->Iz n (U2 Rs ph) g w' o->
  iT P o (UZ g) w' λv w''=>p (zM b1 b2 i ph) (qI g o.dst v) w''/\((i≠b1/\i≠b2/\Below w'.heap.size w' w'')\/(i=b1/\Eb 0 w' w'')\/(i=b2/\Eb 1 w' w''))
def yJ(P:Program)(l:List Oper)(n:Nat)(Rs:List (Nat->vV))(a:Act)(T:Nat->World->Prop)(Eb:Nat->World->World->Prop)(b1 b2:Nat):Nat->List Oper->List (Nat->vV)->Prop
 |_,[],_=>True
 |_,_::_,[]=>False
 |i,o::r,p::ps=>Jz P l n Rs a T Eb b1 b2 i o p/\yJ P l n Rs a T Eb b1 b2 (i+1) r ps
section
variable {Rs:List (Nat→vV)} {T:Nat→World→Prop} {Eb:Nat→World→World→Prop} {b1 b2:Nat}
theorem yJ.at:∀ {r:List Oper} {ps:List (Nat->vV)} {k:Nat},yJ P l n Rs a T Eb b1 b2 k r ps->∀ {j:Nat} {o:Oper},r[j]?=some o->Jz P l n Rs a T Eb b1 b2 (k+j) o (ps.getD j (λ_ _ _=>True))
 |[],_,_,_,_,_,h=>by simp at h
 |_::_,[],_,h,_,_,_=>h.elim
 |x::r,p::ps,k,h,0,o,hj=>by
  simp at hj
  subst hj;exact h.1
 |x::r,p::ps,k,h,j+1,o,hj=>by
  have:=yJ.at h.2 (j:=j) (o:=o) (by simpa using hj)
  rw[show k+1+j=k+(j+1)by omega]at this
  simpa using this
theorem yJ.nil{i:Nat}{ps:List (Nat->vV)}:yJ P l n Rs a T Eb b1 b2 i [] ps:=by cases ps<;>trivial
theorem yJ.cons{i:Nat}{o:Oper}{r:List Oper}{p:Nat->vV}{ps:List (Nat->vV)}(h:Jz P l n Rs a T Eb b1 b2 i o p)(h':yJ P l n Rs a T Eb b1 b2 (i+1) r ps):yJ P l n Rs a T Eb b1 b2 i (o::r) (p::ps):=⟨h,h'⟩
end
theorem Nr(n:Nat)(T:Nat->World->Prop)(Eb:Nat->World->World->Prop)(b1 b2:Nat)(BG:b1≠b2)(h1n:b1<n)(h2n:b2<n)(hw:∀o,l[b2]?=some o->∃e∈o.after,Region.binds .any e=true/\e.on=b1)(Rs:List (Nat->vV)){id:Nat}(hm:P.follows .mixedOrders=true)(hB:G5 l n=true)(hn:Rs.length=n)(hsz:((l.take n).filterMap (·.dst)).all (λd=>decide (d<a.tmps.size))=true)
  (hT1:∀ph w1 w2,T ph w1->Below w1.heap.size w1 w2->T ph w2) (hT2:∀k w1 w2,k<=1->T k w1->Eb k w1 w2->T (k+1) w2) (hT0:T 0 w.drew)
  (hops:yJ P l n Rs a T Eb b1 b2 0 (l.take n) Rs) (hend:∀f w',T 2 w'->TA (Rs.map λp=>p 2) f w'->wpList P l.toArray Q (l.drop n) (kG a (l.take n) f) w'):(Code.region id l.toArray true).wp P Q a w:=by
 have hle:n<=l.length:=by
  have:=hB;simp only[G5,bG,fV,bD]at this
  rcases this.1.1.1.1 with h|h<;>omega
 have hat:∀i,i<n->∃o,l[i]?=some o/\Jz P l n Rs a T Eb b1 b2 i o (λph=>U2 Rs ph i):=λi hi=>by
  have hil:i<l.length:=by omega
  refine⟨l[i],by simp[hil],?_⟩
  have:=hops.at (j:=i) (o:=l[i]) (by rw[gJ];simp[hi,hil])
  rwa [eY]at this
 have NV:∀ph i g w,¬i<n->U2 Rs ph i g w:=λph i g w hi=>by
  unfold U2;rw[dU,kZ (by omega)]
  trivial
 have yg:∀ph i g g' w,(∀j o d,JD l j i->l[j]?=some o->o.dst=some d->g d=g' d)->U2 Rs ph i g w->U2 Rs ph i g' w:=λph i g g' w1 he h=>by
  by_cases hi:i<n
  ·obtain⟨o,_,_,_,h2,_⟩:=hat i hi;exact h2 ph g g' w1 he h
  ·exact NV ph i g' w1 hi
 refine Xz n T Eb b1 b2 BG h1n h2n hw (U2 Rs) hm hB hT1 hT2 hT0 (λph i g w1 w2 h hb=>?_) (λk i g w1 w2 hk hne h hb=>?_) yg (λi o hi ho=>?_) (λf w' hb hR=>hend f w' hb (TA.of λi hi=>?_))
 ·by_cases hi:i<n
  ·obtain⟨o,_,h1,_⟩:=hat i hi;exact h1 ph g w1 w2 h hb
  ·exact NV ph i g w2 hi
 ·by_cases hi:i<n
  ·obtain⟨o,_,_,h1,_⟩:=hat i hi;exact h1 k hk hne g w1 w2 h hb
  ·exact NV (k+1) i g w2 hi
 ·obtain⟨o',ho',_,_,_,h3⟩:=hat i hi;rw[ho]at ho'
  injection ho' with ho'
  subst ho';exact jcO.of hi hB hsz yg h3
 ·rw[fU,hn]at hi
  have h:=hR i hi;have hl:i<Rs.length:=by omega
  simp only[U2,atR,dU,iZ,bf hl,iH,jl]at h ⊢
  exact h
section
variable {Rs:List (Nat→vV)} {T:Nat→World→Prop} {Eb:Nat→World→World→Prop} {b1 b2:Nat}
theorem Jz.val{i d:Nat}{o:Oper}{c:Value}(hi:l[i]?=some o)(ho:o.dst=some d)(hne:i≠b1)(hne2:i≠b2)
  (h:∀ph g w',T ph w'->(∀d,((l.take n).filterMap (·.dst)).contains d=false->g d=a.tmps.getD d undef)->Iz n (U2 Rs ph) g w' o->(execOp (UZ g) o).run P w'=.ok (.value c) w'):
  Jz P l n Rs a T Eb b1 b2 i o (λ_ g _=>g d=c):=by
 refine⟨λ_ _ _ _ h _=>h,λ_ _ _ _ _ _ h _=>h,λ_ g g' _ he h=>(he i o d (JD.self i) hi ho).symm.trans h,λph g w' hb _ _ hout hd=>?_⟩
 unfold iT;rw[h ph g w' hb hout hd];refine⟨?_,.inl ⟨hne,hne2,aj _ _⟩⟩
 rw[ho];unfold qI upd;simp
theorem Jz.one{i d:Nat}{o:Oper}{p:Nat->Value->World->Prop}(hi:l[i]?=some o)(ho:o.dst=some d)(hne:i≠b1)(hne2:i≠b2)(hst:∀ph v w1 w2,p ph v w1->Below w1.heap.size w1 w2->p ph v w2)(hst2:∀k v w1 w2,k<=1->p k v w1->Eb k w1 w2->p (k+1) v w2)
  (h:∀ph g w',T ph w'->(∀d,((l.take n).filterMap (·.dst)).contains d=false->g d=a.tmps.getD d undef)->Iz n (U2 Rs ph) g w' o->iT P o (UZ g) w' λv w''=>p ph v w''/\Below w'.heap.size w' w''):
  Jz P l n Rs a T Eb b1 b2 i o (λph g w=>p ph (g d) w):=by
 refine⟨λph g w1 w2 h hb=>hst _ _ _ _ h hb,λk hk _ g w1 w2 h hb=>hst2 k _ _ _ hk h hb,λph g g' w1 he h=>?_,λph g w' hb _ _ hout hd=>?_⟩
 ·show p ph (g' d) w1;rw[<- he i o d (JD.self i) hi ho];exact h
 ·have h1:=h ph g w' hb hout hd;unfold zM;rw[ho,ay hne,ay hne2];have e:∀v,qI g (some d) v d=v:=λv=>by unfold qI upd;simp
  simp only[e];exact iT.mono (λv w'' h=>⟨h.1,.inl ⟨hne,hne2,h.2⟩⟩) h1
theorem Jz.first{d:Nat}{o:Oper}{p:Nat->Value->World->Prop}(hi:l[b1]?=some o)(ho:o.dst=some d)(hst:∀ph v w1 w2,p ph v w1->Below w1.heap.size w1 w2->p ph v w2)(hst2:∀v w1 w2,p 1 v w1->Eb 1 w1 w2->p 2 v w2)
  (h:∀g w',T 0 w'->(∀d,((l.take n).filterMap (·.dst)).contains d=false->g d=a.tmps.getD d undef)->Iz n (U2 Rs 0) g w' o->iT P o (UZ g) w' λv w''=>p 1 v w''/\Eb 0 w' w''):
  Jz P l n Rs a T Eb b1 b2 b1 o (λph g w=>p ph (g d) w):=by
 refine⟨λph g w1 w2 h hb=>hst _ _ _ _ h hb,λk hk hne g w1 w2 h hb=>?_,λph g g' w1 he h=>?_,λph g w' hb Z4 _ hout hd=>?_⟩
 ·rcases(show k=0\/k=1 by omega)with rfl|rfl
  ·exact absurd rfl hne
  ·exact hst2 _ _ _ h hb
 ·show p ph (g' d) w1;rw[<- he b1 o d (JD.self b1) hi ho];exact h
 ·obtain rfl:=Z4 rfl;have h1:=h g w' hb hout hd;have e1:zM b1 b2 b1 0=1:=aB rfl;have e:∀v,qI g (some d) v d=v:=λv=>by unfold qI upd;simp
  rw[ho,e1];refine iT.mono (λv w'' h=>⟨?_,.inr (.inl ⟨rfl,h.2⟩)⟩) h1
  show p 1 (qI g (some d) v d) w'';rw[e];exact h.1
theorem Jz.second{o:Oper}{p:(Nat->Value)->World->Prop}(BG:b1≠b2)(ho:o.dst=none)(hst:∀g w1 w2,p g w1->Below w1.heap.size w1 w2->p g w2)
  (yg:∀g g' w,(∀j o d,JD l j b2->l[j]?=some o->o.dst=some d->g d=g' d)->p g w->p g' w)
  (h:∀g w',T 1 w'->(∀d,((l.take n).filterMap (·.dst)).contains d=false->g d=a.tmps.getD d undef)->Iz n (U2 Rs 1) g w' o->iT P o (UZ g) w' λ_ w''=>p g w''/\Eb 1 w' w''):
  Jz P l n Rs a T Eb b1 b2 b2 o (λph g w=>ph=2/\p g w):=by
 refine⟨λph g w1 w2 h hb=>⟨h.1,hst _ _ _ h.2 hb⟩,λk hk hne g w1 w2 h hb=>?_,λph g g' w1 he h=>⟨h.1,yg g g' w1 he h.2⟩,λph g w' hb _ Z4 hout hd=>?_⟩
 ·exact absurd h.1 (by omega)
 ·obtain rfl:=Z4 rfl;have h1:=h g w' hb hout hd;have e1:zM b1 b2 b2 1=2:=by unfold zM;rw[ay (λe=>BG e.symm),aB rfl]
  rw[ho,e1];exact iT.mono (λv w'' h=>⟨⟨rfl,h.1⟩,.inr (.inr ⟨rfl,h.2⟩)⟩) h1
end
end
end Wh
namespace Wh
open Go Go.RowKit Go.Shelf Go.Proofs Tryz
attribute [local go_sem] aT jW jm kC
theorem MZ{o:Oper}{ev:Operand->Value}{w:World}{K:Value->World->Prop}(x y:Operand)(ho:o.op=.store 31 x y)(b:Nat)(V V':SV)(E5:jk w b V)(hx:ev x=.pointer (some ⟨b,0,none⟩))(hy:ev y=V'.val)(h1:V'.cells.all (λu=>u.oneCell')=true)
  (h:∀w',jk w' b V'->w.grownBy w' (some b)->K undef w'):iT prog o ev w K:=by
 have hr:=run_storeVar_row (P:=prog) w b 31 31 V.cells.toArray V'.cells.toArray E5 (by kernel_rfl) rfl (by simpa using h1)
 have hk:=h _ (E5.blk.row V'.cells) (yU w b V'.cells.toArray);have hy':ev y=.agg V'.cells.toArray:=hy;unfold iT execOp;simp only[ho,hx,hy',Instr.storeAt,Instr.sureAddr,jg,jw,iC,hr];exact hk
def jsV(aO bx:Nat)(V:SV)(s s1:aJ):Nat->World->Prop
 |0,w=>Bx w aO bx 31 [] V s
 |1,w=>jk w bx V/\∃V9:SV,V9={V with aA:=V9.aA}/\dK w aO V9 s1
 |_,w=>∃V9:SV,V9={V with aA:=V9.aA}/\Bx w aO bx 31 [] V9 s1
def Vu(W:World)(aO bx:Nat)(V:SV)(s s1:aJ)(ph:Nat)(w:World):Prop:=Below W.heap.size W w/\aO<=w.heap.size/\jsV aO bx V s s1 ph w
section
variable {W w w1 w2:World} {aO bx ph:Nat} {V:SV} {s s1:aJ}
theorem Vt(h:Vu W aO bx V s s1 ph w1)(hb:Below w1.heap.size w1 w2):Vu W aO bx V s s1 ph w2:=by
 obtain⟨h1,h2,h3⟩:=h;refine⟨h1.trans (hb.mono h1.size),aY h2 hb.size,?_⟩
 rcases ph with _|_|ph
 ·exact Bx.below h3 hb
 ·obtain⟨h4,V9,h5,h6⟩:=h3;exact⟨h4.below hb h4.lt,V9,h5,h6.below hb⟩
 ·obtain⟨V9,h5,h6⟩:=h3;exact⟨V9,h5,h6.below hb⟩
theorem ja6(h:Vu W aO bx V s s1 ph w):∃Vb:SV,jk w bx Vb/\Vb.ak=V.ak/\(ph=0->Vb=V):=by
 obtain⟨h1,h2,h3⟩:=h;rcases ph with _|_|ph
 ·exact⟨V,Bx.uK h3,rfl,λ_=>rfl⟩
 ·exact⟨V,h3.1,rfl,λh=>by omega⟩
 ·obtain⟨V9,h5,h6⟩:=h3;exact⟨V9,h6.uK,by rw[h5],λh=>by omega⟩
theorem jhh(h:Vu W aO bx V s s1 ph w):∃(Vo:SV) (sq:aJ),dK w aO Vo sq/\Vo.ak=V.ak/\Vo.aG=V.aG/\(sq=s\/sq=s1)/\(ph=0->sq=s):=by
 obtain⟨h1,h2,h3⟩:=h;rcases ph with _|_|ph
 ·exact⟨V,s,Bx.own h3,rfl,rfl,.inl rfl,λ_=>rfl⟩
 ·obtain⟨h4,V9,h5,h6⟩:=h3;exact⟨V9,s1,h6,by rw[h5],by rw[h5];rfl,.inr rfl,λh=>by omega⟩
 ·obtain⟨V9,h5,h6⟩:=h3;exact⟨V9,s1,h6.own,by rw[h5],by rw[h5];rfl,.inr rfl,λh=>by omega⟩
end
def Ii(aO:Nat)(V:SV)(s1:aJ)(f:Value->Value):Nat->Value->World->Prop
 |0,_,_=>False
 |1,v,w=>∃V9:SV,V9={V with aA:=V9.aA}/\v=f V9.val/\dK w aO V9 s1
 |_,v,_=>∃V9:SV,v=f V9.val
theorem F9{aO:Nat}{V:SV}{s1:aJ}{f:Value->Value}{ph:Nat}{v:Value}{w1 w2:World}(h:Ii aO V s1 f ph v w1)(hb:Below w1.heap.size w1 w2):Ii aO V s1 f ph v w2:=by
 rcases ph with _|_|ph
 ·exact h
 ·obtain⟨V9,h5,h6,h7⟩:=h;exact⟨V9,h5,h6,h7.below hb⟩
 ·exact h
theorem IC{aO:Nat}{V:SV}{s1:aJ}{f:Value->Value}{k:Nat}{v:Value}{w1 w2:World}(hk:k<=1)(h:Ii aO V s1 f k v w1):Ii aO V s1 f (k+1) v w2:=by
 rcases(show k=0\/k=1 by omega)with rfl|rfl
 ·exact h.elim
 ·obtain⟨V9,h5,h6,h7⟩:=h;exact⟨V9,h6⟩
theorem jdn(w:World)(v vs:Value)(p:dA)(s:aJ)(hp:mW w w.heap.size v p)(hv:lK w w.heap.size vs s):
  Calls prog 53 #[v,vs] w (nN (zq p s) w):=by
 obtain⟨Ab,cb,As,cs,rfl,hP',hBn,hSz,hlb,hls⟩:=sN hp;obtain⟨A0,c0,A1,c1,A2,c2,A3,c3,A4,c4,A5,c5,A6,c6,rfl,hV,hN,hO,hH,hM,hI,hU,hX,hl0,hl1,hl2,hl3,hl4,hl5,JA⟩:=oW hv;go_enter func53,ntmps53
 go_wp2_with fail;obtain⟨W0,hW0,hb0,lg,uZ,hsE,hK,hR⟩:=yD w p s Ab cb As cs A0 c0 A1 c1 A2 c2 A3 c3 A4 c4 A5 c5 A6 c6;rw[hW0];clear hW0;obtain⟨⟨y0,y1⟩,x0,x1,x2,x3,x4,x5,x6,eP,eU⟩:=hK.O W0 (aj W0.heap.size W0);go_wp2_with fail;clear y0 y1 x0 x1 x2 x3 x4 x5 x6 eP eU;refine(Ag _ _ _ p s (hP'.O _ hb0) (hV.O _ hb0)).mono ?_
 rintro e W1 ⟨rfl,h1⟩;have hB1:=hb0.trans (h1.mono hb0.size);obtain⟨⟨y0,y1⟩,x0,x1,x2,x3,x4,x5,x6,eP,eU⟩:=hK.O W1 (h1);by_cases hc:aQ p s=0
 ·have hc':=ah hc;have hsn:=ah (kM.1 hc).1;have bK:=ah (Vs hc);have h4:=hsn.O.qH;rw[hc];clear hc;go_wp2_with fail;clear y0 y1 x0 x1 x2 x3 x4 x5 x6 eP eU;refine(EI _ _ p s (hV.O _ hB1) hsn.O).mono ?_
  rintro e W5 ⟨_,rfl,⟨V5,rfl,AY⟩,h5⟩;have pq:=(AY).one;have xw:=vG (W5);go_wp2_with (refine dB (.tmp 7) (.tmp 20) dH V5 rfl xw rfl pq (λw6 lM Ib=>?_);refine aW ?_)
  unfold Hid;have sG:=qX Ib;have vT:=lM.lt;clear pq xw Ib;have hx6:=ah (Bx.of lM (AY.below sG));have h06:=h1.trans ((h5.trans (sG.mono h5.size)).mono h1.size);have hle:w.heap.size<=W1.heap.size:=hB1.size;have hle0:W0.heap.size<=W1.heap.size:=h1.size;have zZ:W1.heap.size<=W5.heap.size:=h5.size;clear lM AY sG h5 vT h1 hB1;generalize W1.heap.size=aO at hx6 hle hle0 zZ
  generalize W5.heap.size=bx at hx6 zZ ⊢
  obtain⟨Ao,co,hvo⟩:=hx6.O.own.EL;have Gp:=ah hvo;clear hvo;go_wp2_with fail;go_loopw[8,9] (λi _ wr=>∃n:Nat,n<=s.ak.length/\i=.int .i64 n/\Bx wr aO bx 31 [] V5 (tX s n)/\Below W0.heap.size W0 wr) (λi _ _=>s.ak.length - (RowKit.intOf i).toNat)
  case atStart=>exact⟨0,aK _,rfl,by rw[TY];exact hx6.O,h06⟩
  case round=>
   clear hx6 h06;obtain⟨n,hn,rfl,hx,h0⟩:=hrel;have hx':=ah hx;clear hx;have c1:=hx'.O.cells.2.1;rw[Gp.O]at c1
   by_cases hlt:n<s.ak.length
   ·have hni:(n:Int)<(s.ak.length:Int):=by omega
    have KT:n<(tX s n).ak.length:=by rw[Ez];exact hlt
    have l13:=hsn.O.tN hlt;obtain⟨go,_,_,eo,-⟩:=hx'.O.own.aU KT;rw[Gp.O]at eo
    injection eo with eo e2 e3
    subst eo;clear e2 e3;obtain⟨hgo,jgc,z0,z1⟩:=hx'.O.own.oP KT Gp.O;rw[Ir hlt]at z0
    clear KT;by_cases hk:(s.aC n).dW=0
    ·have hq:((s.aC n).dW !=0)=false:=by simpa using hk
     have hk':=ah hk;clear hk;go_wp2_with (refine F6 rfl (.tmp 39) (.const (.int .i64 1)) rfl rfl (i:=n) (q:=1) hx'.O (by rw[Ez];exact hlt) Gp.O rfl rfl (λw7 hx7 Ee=>?_);refine aW ?_)
     unfold Hid;rw[Uc hlt]at hx7
     have h07:=h0.trans (Ee.below (B:=W0.heap.size) (λq hq=>by omega) h0.size)
     have zx:=ah hx7;clear Ee hx7 z0 z1 c1 hq hx';obtain⟨gl,cl,e1,hgl⟩:=zx.O.own.Dx (o:=n) (by rw[Jo];exact hlt) (by rw[DI hlt];omega)
     rw[DI hlt]at e1
     have e1':=ah e1;clear e1;go_wp2_with fail;go_loopw[9] (λi wr=>∃k:Nat,k<=(s.aC n).aH.length/\i=.int .i64 k/\Bx wr aO bx 31 [] V5 (Dk s n k)/\Below W0.heap.size W0 wr) (λi _=>(s.aC n).aH.length - (RowKit.intOf i).toNat)
     case atStart=>exact⟨0,aK _,rfl,zx.O,h07⟩
     case round=>
      clear zx h07 h0;obtain⟨k,hkl,rfl,hx,h0⟩:=hrel;have hx':=ah hx;clear hx;have hon:n<(Dk s n k).ak.length:=by rw[Jo];exact hlt
      obtain⟨_,_,_,z1⟩:=hx'.O.own.oP hon Gp.O;rw[e1'.O]at z1
      have c1:=hx'.O.cells.2.1;rw[Gp.O]at c1
      have jbT:=ah hon;clear hon;by_cases hkt:k<(s.aC n).aH.length
      ·have hki:(k:Int)<((s.aC n).aH.length:Int):=by omega
       have hkn:k<((Dk s n k).aC n).aH.length:=by rw[DI hlt];exact hkt
       obtain⟨XZ,f0,f1,f2,f3⟩:=hx'.O.own.sV jbT.O hkn e1'.O;rw[J4 hlt hkt]at f1
       have Wj:=ah hx'.O.drew;have hkn':=ah hkn;clear f0 f2 f3 hkn;go_wp2_with fail;go_still_tail 19,(by kernel_rfl)
       change wpList _ _ _ _ _ wr.drew;refine AO rfl (.tmp 69) (.tmp 67) rfl rfl (j:=3) (y:={s.aG n k with dP:=(s.aG n k).iw}) Wj.O jbT.O hkn'.O e1'.O (by decide) (by rw[J4 hlt hkt];rfl) rfl rfl (λw9 uO wJ=>?_)
       refine fC ?_
       rw[Ud hlt hkt]at uO
       have h09:=h0.drew.trans (wJ.below (B:=W0.heap.size) (λq hq=>by omega) h0.drew.size)
       have Dj:=ah uO;clear wJ uO z1 f1 c1 hx' Wj;go_wp2_with fail;go_roundw
       case rel=>exact⟨k+1,by omega,by go_num,Dj.O,h09⟩
       case measure=>simp[RowKit.intOf];omega
      ·obtain rfl:k=(s.aC n).aH.length:=by omega
       have hx2:=ah (show Bx wr aO bx 31 [] V5 (tX s (n+1))by rw[<- WS hlt hk'.O];exact hx'.O)
       go_wp2_with fail;go_roundw
       case rel=>exact⟨n+1,by omega,by go_num,hx2.O,h0⟩
       case measure=>simp[RowKit.intOf];omega
    ·have hq:((s.aC n).dW !=0)=true:=by simpa using hk
     have hx2:=ah (show Bx wr aO bx 31 [] V5 (tX s (n+1))by rw[Ub hlt hk];exact hx'.O)
     clear hk;go_wp2_with fail;go_roundw
     case rel=>exact⟨n+1,by omega,by go_num,hx2.O,h0⟩
     case measure=>simp[RowKit.intOf];omega
   ·obtain rfl:n=s.ak.length:=by omega
    have hx6:=ah (show Bx wr aO bx 31 [] V5 (jV p 0 (mV s))by rw[<- WR];exact hx'.O)
    clear hx';go_wp2_with fail;clear c1;have h06:=h0;clear h0;go_loopw[10,11] (λi _ wr=>∃(n:Nat) (V:SV),V={V5 with aA:=V.aA}/\n<=s.ak.length/\i=.int .i64 n/\Bx wr aO bx 31 [] V (jV p n (mV s))/\Below W0.heap.size W0 wr) (λi _ _=>s.ak.length - (RowKit.intOf i).toNat)
    case atStart=>exact⟨0,V5,rfl,aK _,rfl,hx6.O,h06⟩
    case round=>
     clear hx6 h06;obtain⟨n,V,Xv,hn,rfl,hx,h0⟩:=hrel;have hx':=ah hx;have Ph:=ah (show V.ak=.slice Ao s.ak.length co by rw[Xv];exact Gp.O)
     have KC:=ah Xv;have c1:=hx.cells.2.1;rw[Ph.O]at c1
     clear hx Xv;by_cases hlt:n<s.ak.length
     ·have hni:(n:Int)<(s.ak.length:Int):=by omega
      have l13:=hsn.O.tN hlt;obtain⟨hrt,kD,Hz⟩:=LP (p:=p) hc'.O hn;have KT:n<(jV p n (mV s)).ak.length:=by rw[kD];exact hlt
      have hln:=Hz n hlt;obtain⟨go,_,_,eo,-⟩:=hx'.O.own.aU KT;rw[Ph.O]at eo
      injection eo with eo e2 e3
      subst eo;clear e2 e3;have jtE:∃kd,((jV p n (mV s)).aC n).dW=kd:=⟨_,rfl⟩;obtain⟨kd,hkd⟩:=jtE;have SQ:=ah hkd;obtain⟨gl,cl,e1,hgl⟩:=hx'.O.own.Dx KT (by rw[hln];omega)
      rw[hln]at e1
      have e1':=ah e1;have hgo:=(hx'.O.own.oP KT Ph.O).1;have h06:=h0;have hx6:=hx';clear hkd hrt kD Hz KT hln e1 h0 hx';go_wp2_with fail;clear c1;by_cases hk:kd=1
      ·subst hk;go_loopw[11] (λi wr=>∃(k:Nat) (V:SV),V={V5 with aA:=V.aA}/\k<=(s.aC n).aH.length/\i=.int .i64 k/\Bx wr aO bx 31 [] V (Ed p s n k)/\Below W0.heap.size W0 wr) (λi _=>(s.aC n).aH.length - (RowKit.intOf i).toNat)
       case atStart=>exact⟨0,V,KC.O,aK _,rfl,hx6.O,h06⟩
       case round=>
        clear hx6 h06 Ph KC e1' V;obtain⟨k,V,Xv,hkl,rfl,hx,h0⟩:=hrel;have hx':=ah hx;have Ph:=ah (show V.ak=.slice (some ⟨go,0,none⟩) s.ak.length co by rw[Xv];exact Gp.O)
        have KC:=ah Xv;clear hx Xv;obtain⟨hrt,kD,hkk,hln⟩:=LQ hc'.O hlt SQ.O hkl;have jbO:=ah hrt;have hon:n<(Ed p s n k).ak.length:=by rw[kD];exact hlt
        obtain⟨_,_,z0,z1⟩:=hx'.O.own.oP hon Ph.O;rw[hkk,SQ.O]at z0
        obtain⟨gl2,cl2,e1,jre⟩:=hx'.O.own.Dx hon (by rw[hln];omega)
        rw[hln]at e1
        rw[e1]at z1
        have e1':=ah e1;obtain⟨b0,c1,b2,b3,b4,b5,b6⟩:=hx'.O.cells;rw[Ph.O]at c1
        have jbT:=ah hon;have jiB:=ah hln;have hlen0:=ah kD;clear hrt kD hkk hln hon e1;by_cases hkt:k<(s.aC n).aH.length
        ·have hki:(k:Int)<((s.aC n).aH.length:Int):=by omega
         have hkn:k<((Ed p s n k).aC n).aH.length:=by rw[jiB.O];exact hkt
         have hmay:=ah (ja8 hc'.O hlt SQ.O hkt);obtain⟨XZ,f0,f1,f2,f3⟩:=hx'.O.own.sV jbT.O hkn e1'.O;have hxd:=ah hx'.O.drew;have hBd:=hb0.trans (h0.drew.mono hb0.size);have hbs:bx<wr.heap.size:=hx'.O.lt;have jtC:k+1<=(s.aC n).aH.length:=hkt;obtain⟨_,hlen1,_,jkX⟩:=LQ hc'.O hlt SQ.O jtC;have hfr:∃s1 x,Ed p s n (k+1)=s1/\(qL p (Ed p s n k) n k ((Ed p s n k).aG n k).dP (-1)).2=x:=⟨_,_,rfl,rfl⟩;obtain⟨s1,x,hs1,hxx⟩:=hfr;have hs1':=ah hs1;have jf6:=ah hxx;rw[hs1]at hlen1 jkX
         have jiD:=ah hlen1;have jmd:=ah jkX;have rV:aO<=wr.drew.heap.size:=by show aO<=wr.heap.size;omega
         have hT0:Vu W0 aO bx V (Ed p s n k) s1 0 wr.drew:=⟨h0.drew,rV,hxd.O⟩;have ji6:=ah hT0;have hrd:∀ph w',Vu W0 aO bx V (Ed p s n k) s1 ph w'->∃Vb:SV,jk w' bx Vb/\Vb.ak=.slice (some ⟨go,0,none⟩) s.ak.length co/\(ph=0->Vb=V):=λph w' h=>by
          obtain⟨Vb,h1,h2,h3⟩:=ja6 h;exact⟨Vb,h1,h2.trans Ph.O,h3⟩
         have hrl:∀ph w',Vu W0 aO bx V (Ed p s n k) s1 ph w'->w'.cell? ⟨go,n*2+1,none⟩=some (.slice (some ⟨gl2,0,none⟩) (s.aC n).aH.length cl2)/\∃q,w'.cell? ⟨gl2,k*4+3,none⟩=some (.int .i64 q)/\(ph=0->q=((Ed p s n k).aG n k).dP):=λph w' h=>by
          obtain⟨Vo,sq,h1,h2,h3,h4,h5⟩:=jhh h;have hq1:sq.ak.length=s.ak.length:=by
           rcases h4 with rfl|rfl
           ·exact hlen0.O
           ·exact jiD.O
          have hq2:(sq.aC n).aH.length=(s.aC n).aH.length:=by
           rcases h4 with rfl|rfl
           ·exact jiB.O
           ·exact jmd.O
          obtain⟨_,_,_,z1⟩:=h1.oP (by rw[hq1];exact hlt) (h2.trans Ph.O)
          have el:Vo.aG n=.slice (some ⟨gl2,0,none⟩) (s.aC n).aH.length cl2:=by rw[h3];exact e1'.O
          rw[el]at z1
          obtain⟨_,_,_,_,f3⟩:=h1.sV (by rw[hq1];exact hlt) (by rw[hq2];exact hkt) el
          exact⟨z1,_,f3,λh0=>by rw[h5 h0]⟩
         have jnh:=ah hrd;have jif:=ah hrl;clear hs1 hxx hlen1 jkX hT0 hrd hrl f0 f1 f2 f3 hkn b0 b2 b3 b4 b5 b6 rV;go_wp2_with fail;clear z0 z1 c1;refine Nr 19 (Vu W0 aO bx V (Ed p s n k) s1) (λk' w1 w2=>Vu W0 aO bx V (Ed p s n k) s1 k' w1->Vu W0 aO bx V (Ed p s n k) s1 (k'+1) w2) 14 18 (by decide) (by decide) (by decide) (λo ho=>by injection ho with ho;subst ho;exact⟨⟨14,.chain⟩,by simp,rfl,rfl⟩)
          [λ_ gq _=>gq 98=.agg #[.slice Ab p.bQ.length cb,.slice As p.aP.length cs],λph gq w'=>(λ(ph:Nat) (v:Value) (_:World)=>∃V':SV,v=V'.val/\(ph=0->V'=V)) ph (gq 99) w',λ_ gq _=>gq 100=.int .i64 n,λ_ gq _=>gq 101=.int .i64 k,λ_ gq _=>gq 102=.pointer (some ⟨bx,1,none⟩),λ_ gq _=>gq 103=.slice (some ⟨go,0,none⟩) s.ak.length co,λ_ gq _=>gq 104=.int .i64 n,λ_ gq _=>gq 105=.pointer (some ⟨go,n*2,none⟩),λ_ gq _=>gq 106=.pointer (some ⟨go,n*2+1,none⟩),λ_ gq _=>gq 107=.slice (some ⟨gl2,0,none⟩) (s.aC n).aH.length cl2,λ_ gq _=>gq 108=.int .i64 k,λ_ gq _=>gq 109=.pointer (some ⟨gl2,k*4,none⟩),λ_ gq _=>gq 110=.pointer (some ⟨gl2,k*4+3,none⟩),λph gq w'=>(λ(ph:Nat) (v:Value) (_:World)=>∃q,v=.int .i64 q/\(ph=0->q=((Ed p s n k).aG n k).dP)) ph (gq 111) w',λph gq w'=>Ii aO V s1 (λv=>.tuple #[v,.int .i64 x]) ph (gq 112) w',λph gq w'=>Ii aO V s1 (λv=>.tuple #[v,.int .i64 x]) ph (gq 97) w',λph gq w'=>Ii aO V s1 id ph (gq 113) w',λ_ gq _=>gq 114=.int .i64 x,λph gq w'=>ph=2/\True] (by kernel_rfl) (by kernel_rfl) rfl (by kernel_rfl)
          (λph w1 w2 h h'=>Vt h h') (λk w1 w2 _ h h'=>h' h) ji6.O ?_ (λf w2 hb2 hR=>?_)
         simp only[bC,bV];refine yJ.cons (Jz.val rfl rfl (by decide) (by decide) (λph gq w' hb ho hd=>?_)) ?_
         ·have e2:=ho 2 rfl;obtain⟨⟨y0,y1⟩,x0,x1,x2,x3,x4,x5,x6,eP,eU⟩:=hK.O w' (hb.1);go_simp
         refine yJ.cons (Jz.one (d:=99) (p:=λ(ph:Nat) (v:Value) (_:World)=>∃V':SV,v=V'.val/\(ph=0->V'=V)) rfl rfl (by decide) (by decide) (λph v w1 w2 h hb=>h) (λk v w1 w2 _ h hb=>by
           obtain⟨V',h1,h2⟩:=h;exact⟨V',h1,λh=>by omega⟩) (λph gq w' hb ho hd=>?_)) ?_
         ·have e7:=ho 7 rfl;obtain⟨Vb,hvb,jdP,hvv⟩:=jnh.O ph w' hb;have jqF:=ah jdP;clear jdP;obtain⟨b0,b1,b2,b3,b4,b5,b6⟩:=hvb.cells;have jh6:=ah hvv;clear hvv hvb;unfold iT;go_simp
          exact⟨⟨Vb,by first|rfl|(unfold SV.val;rw[jqF.O]),jh6.O⟩,aj _ _⟩
         refine yJ.cons (Jz.val rfl rfl (by decide) (by decide) (λph gq w' hb ho hd=>?_)) ?_
         ·have e10:=ho 10 rfl;go_simp
         refine yJ.cons (Jz.val rfl rfl (by decide) (by decide) (λph gq w' hb ho hd=>?_)) ?_
         ·have e11:=ho 11 rfl;go_simp
         refine yJ.cons (Jz.val rfl rfl (by decide) (by decide) (λph gq w' hb ho hd=>?_)) ?_
         ·have e7:=ho 7 rfl;go_simp
         refine yJ.cons (Jz.val rfl rfl (by decide) (by decide) (λph gq w' hb ho hd=>?_)) ?_
         ·have jvC:gq 102=.pointer (some ⟨bx,1,none⟩):=hd ⟨4,.data⟩ (by simp) rfl (by decide)
          obtain⟨Vb,hvb,jdP,hvv⟩:=jnh.O ph w' hb;have c1:=hvb.cells.2.1;rw[jdP]at c1
          clear hvv hvb jdP;go_simp
         refine yJ.cons (Jz.val rfl rfl (by decide) (by decide) (λph gq w' hb ho hd=>?_)) ?_
         ·have e10:=ho 10 rfl;go_simp
         refine yJ.cons (Jz.val rfl rfl (by decide) (by decide) (λph gq w' hb ho hd=>?_)) ?_
         ·have jvB:gq 103=.slice (some ⟨go,0,none⟩) s.ak.length co:=hd ⟨5,.data⟩ (by simp) rfl (by decide)
          have e104:gq 104=.int .i64 n:=hd ⟨6,.data⟩ (by simp) rfl (by decide)
          go_simp
         refine yJ.cons (Jz.val rfl rfl (by decide) (by decide) (λph gq w' hb ho hd=>?_)) ?_
         ·have e105:gq 105=.pointer (some ⟨go,n*2,none⟩):=hd ⟨7,.data⟩ (by simp) rfl (by decide)
          go_simp
         refine yJ.cons (Jz.val rfl rfl (by decide) (by decide) (λph gq w' hb ho hd=>?_)) ?_
         ·have e106:gq 106=.pointer (some ⟨go,n*2+1,none⟩):=hd ⟨8,.data⟩ (by simp) rfl (by decide)
          obtain⟨z1,_⟩:=jif.O ph w' hb;go_simp
         refine yJ.cons (Jz.val rfl rfl (by decide) (by decide) (λph gq w' hb ho hd=>?_)) ?_
         ·have e11:=ho 11 rfl;go_simp
         refine yJ.cons (Jz.val rfl rfl (by decide) (by decide) (λph gq w' hb ho hd=>?_)) ?_
         ·have e107:gq 107=.slice (some ⟨gl2,0,none⟩) (s.aC n).aH.length cl2:=hd ⟨9,.data⟩ (by simp) rfl (by decide)
          have e108:gq 108=.int .i64 k:=hd ⟨10,.data⟩ (by simp) rfl (by decide)
          go_simp
         refine yJ.cons (Jz.val rfl rfl (by decide) (by decide) (λph gq w' hb ho hd=>?_)) ?_
         ·have e109:gq 109=.pointer (some ⟨gl2,k*4,none⟩):=hd ⟨11,.data⟩ (by simp) rfl (by decide)
          go_simp
         refine yJ.cons (Jz.one (d:=111) (p:=λ(ph:Nat) (v:Value) (_:World)=>∃q,v=.int .i64 q/\(ph=0->q=((Ed p s n k).aG n k).dP)) rfl rfl (by decide) (by decide) (λph v w1 w2 h hb=>h) (λk v w1 w2 _ h hb=>by
           obtain⟨V',h1,h2⟩:=h;exact⟨V',h1,λh=>by omega⟩) (λph gq w' hb ho hd=>?_)) ?_
         ·have juG:gq 110=.pointer (some ⟨gl2,k*4+3,none⟩):=hd ⟨12,.data⟩ (by simp) rfl (by decide)
          obtain⟨_,q,f3,hvv⟩:=jif.O ph w' hb;have jh6:=ah hvv;clear hvv;unfold iT;go_simp
          exact⟨jh6.O,aj _ _⟩
         refine yJ.cons (Jz.first (d:=112) (p:=Ii aO V s1 (λv=>.tuple #[v,.int .i64 x])) rfl rfl (λph v w1 w2 h hb=>F9 h hb) (λv w1 w2 h hb=>IC (au _) h) (λgq w' hb ho hd=>?_)) ?_
         ·have e98:gq 98=.agg #[.slice Ab p.bQ.length cb,.slice As p.aP.length cs]:=hd ⟨0,.data⟩ (by simp) rfl (by decide)
          have e99:∃V':SV,gq 99=V'.val/\((0:Nat)=0->V'=V):=hd ⟨1,.data⟩ (by simp) rfl (by decide)
          have e100:gq 100=.int .i64 n:=hd ⟨2,.data⟩ (by simp) rfl (by decide)
          have jpq:gq 101=.int .i64 k:=hd ⟨3,.data⟩ (by simp) rfl (by decide)
          have jsk:∃q,gq 111=.int .i64 q/\((0:Nat)=0->q=((Ed p s n k).aG n k).dP):=hd ⟨13,.data⟩ (by simp) rfl (by decide)
          obtain⟨V',e99,hVV⟩:=e99;obtain⟨q,jsk,hqq⟩:=jsk;obtain rfl:=(hVV rfl).symm;obtain rfl:=(hqq rfl).symm;have hb':=ah hb;clear hb hVV hqq;unfold iT;go_simp
          refine(jhl w' _ p (Ed p s n k) n k _ (-1) (hP'.O _ (hb0.trans (hb'.O.1.mono hb0.size))) jbO.O hmay.O (Bx.own hb'.O.2.2) hb'.O.2.1).mono ?_
          rintro e w9 ⟨V9,hV9,rfl,E8,wJ⟩;have MB:dK w9 aO V9 s1:=by rw[<- hs1'.O];exact E8
          rw[jf6.O];refine⟨_,rfl,⟨V9,hV9,rfl,MB⟩,λ_=>⟨hb'.O.1.trans (wJ.below (B:=W0.heap.size) (λq hq=>by
           rw[e1'.O]at hq
           change some gl2=some q at hq
           injection hq with hq
           omega) hb'.O.1.size),aY hb'.O.2.1 wJ.size,wJ.blk (Bx.uK hb'.O.2.2).blk ?_,V9,hV9,MB⟩⟩
          rcases Own.mQ ((Bx.own hb'.O.2.2).aG n jbT.O) (Bx.uK hb'.O.2.2).blk (by decide)with h|h
          ·rw[h];simp
          ·exact h
         refine yJ.cons (Jz.one (d:=97) (p:=Ii aO V s1 (λv=>.tuple #[v,.int .i64 x])) rfl rfl (by decide) (by decide) (λph v w1 w2 h hb=>F9 h hb) (λk v w1 w2 hk h hb=>IC hk h) (λph gq w' hb ho hd=>?_)) ?_
         ·have jov:Ii aO V s1 (λv=>.tuple #[v,.int .i64 x]) ph (gq 112) w':=hd ⟨14,.data⟩ (by simp) rfl (by decide)
          have jsj:=ah jov;clear jov;unfold iT;go_simp
          exact⟨jsj.O,aj _ _⟩
         refine yJ.cons (Jz.one (d:=113) (p:=Ii aO V s1 id) rfl rfl (by decide) (by decide) (λph v w1 w2 h hb=>F9 h hb) (λk v w1 w2 hk h hb=>IC hk h) (λph gq w' hb ho hd=>?_)) ?_
         ·have e97:Ii aO V s1 (λv=>.tuple #[v,.int .i64 x]) ph (gq 97) w':=hd ⟨15,.data⟩ (by simp) rfl (by decide)
          rcases ph with _|_|ph
          ·exact e97.elim
          ·obtain⟨V7,hV7,e97,Ia⟩:=e97;have Z7:=ah Ia;have jn8:=ah hV7;clear Ia hV7;unfold iT;go_simp
           exact⟨⟨V7,jn8.O,rfl,Z7.O⟩,aj _ _⟩
          ·obtain⟨V7,e97⟩:=e97;unfold iT;go_simp
           exact⟨⟨V7,rfl⟩,aj _ _⟩
         refine yJ.cons (Jz.val rfl rfl (by decide) (by decide) (λph gq w' hb ho hd=>?_)) ?_
         ·have e97:Ii aO V s1 (λv=>.tuple #[v,.int .i64 x]) ph (gq 97) w':=hd ⟨15,.data⟩ (by simp) rfl (by decide)
          have juD:∃V7:SV,gq 97=.tuple #[V7.val,.int .i64 x]:=by
           rcases ph with _|_|ph
           ·exact e97.elim
           ·obtain⟨V7,_,h,_⟩:=e97;exact⟨V7,h⟩
           ·exact e97
          clear e97;obtain⟨V7,e97⟩:=juD;go_simp
         refine yJ.cons (Jz.second (p:=λ_ _=>True) (by decide) rfl (λgq w1 w2 h hb=>trivial) (λgq gq' w1 he h=>trivial) (λgq w' hb ho hd=>?_)) ?_
         ·have e7:=ho 7 rfl;have jou:Ii aO V s1 id 1 (gq 113) w':=hd ⟨16,.data⟩ (by simp) rfl (by decide)
          obtain⟨V7,hV7,jou,Ia⟩:=jou;refine MZ (.tmp 7) (.tmp 113) rfl bx V V7 hb.2.2.1 e7 jou Ia.one (λw8 KW hg8=>?_)
          exact⟨trivial,λ_=>⟨hb.1.grown hg8 hb.1.size (λq hq=>by injection hq with hq;omega),aY hb.2.1 hg8.size,V7,hV7,Bx.of KW (Ia.keptBy hg8 hb.2.2.1.blk (by decide) (by decide) (by decide) (by decide) (by decide) (by decide))⟩⟩
         exact yJ.nil;obtain⟨r98,⟨V0,r99,_⟩,jqh,jqg,jqf,jqe,jqd,jqc,jqb,jqa,jhA,jhz,jhy,⟨q0,jhx,_⟩,⟨V1,jhw⟩,⟨V2,r97⟩,⟨V3,jhv⟩,jhu,_⟩:=hR;simp only[kG,zB,bC,bV,eG,gW,eX,fF,fB,gV,bM,dF,dL,r98,r99,jqh,jqg,jqf,jqe,jqd,jqc,jqb,jqa,jhA,jhz,jhy,jhx,jhw,r97,jhv,jhu];clear r98 r99 jqh jqg jqf jqe jqd jqc jqb jqa jhA jhz jhy jhx jhw r97 jhv jhu;refine fC ?_
         obtain⟨h09,_,V9,hV9,uO⟩:=hb2;have ji5:=ah (Vf hV9 KC.O);have Dj:=ah (show Bx w2 aO bx 31 [] V9 (Ed p s n (k+1))by rw[hs1'.O];exact uO)
         clear uO hV9 hxd hx' KC Ph hmay jbO e1' hs1' jf6 ji6 jnh jif jiD jmd;go_wp2_with fail;go_roundw
         case rel=>exact⟨k+1,V9,ji5.O,by omega,by go_num,Dj.O,h09⟩
         case measure=>simp[RowKit.intOf];omega
        ·obtain rfl:k=(s.aC n).aH.length:=by omega
         have hx2:=ah (show Bx wr aO bx 31 [] V (jV p (n+1) (mV s))by rw[<- ja7 hc'.O hlt SQ.O];exact hx'.O)
         go_wp2_with fail;go_roundw
         case rel=>exact⟨n+1,V,KC.O,by omega,by go_num,hx2.O,h0⟩
         case measure=>simp[RowKit.intOf];omega
      ·have hko:(kd==1)=false:=by simpa using hk
       have hkx:=ah hk;clear hk;go_loopw[11] (λi wr=>i=.int .i64 0/\Bx wr aO bx 31 [] V (jV p n (mV s))/\Below W0.heap.size W0 wr) (λi _=>0)
       case atStart=>exact⟨rfl,hx6.O,h06⟩
       case round=>
        clear hx6 h06;obtain⟨rfl,hx,h0⟩:=hrel;have hx':=ah hx;clear hx;obtain⟨hrt,kD,Hz⟩:=LP (p:=p) hc'.O hn;have KT:n<(jV p n (mV s)).ak.length:=by rw[kD];exact hlt
        obtain⟨_,_,z0,z1⟩:=hx'.O.own.oP KT Ph.O;rw[SQ.O]at z0
        rw[e1'.O]at z1
        have c1:=hx'.O.cells.2.1;rw[Ph.O]at c1
        have hl0:(0:Int)<((s.aC n).aH.length:Int):=by omega
        have hx2:=ah (show Bx wr aO bx 31 [] V (jV p (n+1) (mV s))by rw[jeT (by rw[SQ.O];exact hkx.O)];exact hx'.O)
        clear hrt kD Hz KT;go_wp2_with fail;go_roundw
        case rel=>exact⟨n+1,V,KC.O,by omega,by go_num,hx2.O,h0⟩
        case measure=>simp[RowKit.intOf];omega
     ·obtain rfl:n=s.ak.length:=by omega
      have hB0:=hb0.trans (h0.mono hb0.size);have hx2:=ah (show Bx wr aO bx 31 [] V (Ec p s)from hx'.O)
      have hvv:=Ph.O;clear hx' Ph KC;obtain⟨a0,a1,a2,a3,a4,a5,a6,a7,a8⟩:=V;obtain rfl:a1=.slice Ao s.ak.length co:=hvv;have fH:=hR.O _ h0;obtain⟨b0,b1,b2,b3,b4,b5,b6⟩:=jk.cells hx2.O.uK;have lG:=dK.one hx2.O.own;go_wp2_with (refine dB (.tmp 4) (.tmp 115) dH (⟨a0,.slice Ao s.ak.length co,a2,a3,a4,a5,a6,a7,a8⟩:SV) rfl fH rfl lG (λw9 dM je=>?_))
      have wC:=dK.keptBy hx2.O.own je fH (by decide) (by decide) (by decide) (by decide) (by decide) (by decide)
      have dN:=Below.gB hB0 je;clear b0 b1 b2 b3 b4 b5 b6;go_wp2_with fail;exact jo results53 dM rfl rfl (EZ bK.O (wC.from_ hle) dN)
 ·have hne:(aQ p s !=0)=true:=by simpa using hc
  have bK:=ah (TJ hc);clear hc;have fH:=hR.O _ h1;go_wp2_with (refine dB (.tmp 4) (.tmp 17) dH dH rfl fH rfl rfl (λw9 dM je=>?_))
  have dN:=Below.gB hB1 je;go_wp2_with fail;exact jo results53 dM rfl rfl (jQ bK.O dN)
end Wh
namespace Wh
open Go Go.RowKit Go.Shelf Go.Proofs Tryz
attribute [local go_sem] aT
theorem Hu{α:Type}{l:List α}{j:Nat}(hj:j<l.length)(P:α->Bool)(h:P l[j]=true):(l.take (j+1)).filter P=(l.take j).filter P++[l[j]]:=by
 rw[dO hj,jI];simp[h]
theorem Fe{α:Type}{l:List α}{j:Nat}(hj:j<l.length)(P:α->Bool)(h:P l[j]=false):(l.take (j+1)).filter P=(l.take j).filter P:=by
 rw[dO hj,jI];simp[h]
theorem jaY{α:Type}{l:List α}{P:α->Bool}(h:l.any P=true):l.findIdx P<l.length/\((l.take (l.findIdx P+1)).filter λx=>!P x)=l.take (l.findIdx P):=by
 have hlt:l.findIdx P<l.length:=List.findIdx_lt_length.2 (by obtain⟨x,hx,hp⟩:=lu.1 h;exact⟨x,hx,hp⟩)
 refine⟨hlt,?_⟩
 rw[Fe hlt _ (by have:=List.findIdx_getElem (p:=P) (xs:=l) (w:=hlt);simp[this]),oO]
 intro x hx;obtain⟨i,hi,rfl⟩:=aV hx;rw[wu];have hi':i<l.findIdx P:=by rw[bT]at hi;omega
 have:=List.not_of_lt_findIdx hi';simp[this]
theorem jf4:(prog.info? 46).map (·.size)=some 4:=by kernel_rfl
theorem Uf(w:World)(aO:Nat)(v:Value)(l:List dZ)(gf:FuncId)(lb:Array Value)(del:dZ->Bool)(eg:Enters prog gf)(lC:Own ig 4 46 w aO v l)(hn:l.length<=1000000)
  (hf:∀k,k<l.length->∀W,Step (λq=>v.ownBlock=some q) w W->Calls prog gf (#[um (hold l k)]++lb) W λe W'=>e=.returned (.bool (del (hold l k)))/\Below W.heap.size W W'):
  Calls prog 99 #[v,.func (.func gf) #[] lb] w λe w'=>∃v',e=.returned v'/\Own ig 4 46 w' aO v' (l.filter λx=>!del x)/\Step (λq=>v.ownBlock=some q) w w'/\v'.ownBlock=v.ownBlock:=by
 have hI:=ah (PX w v l gf lb del eg (lC.sl (by omega)) (λk hk W hW=>hf k hk W (.of_below hW)))
 have hF:=ah hf;have hl:l.length<=140737488355232:=by omega
 have eg':∀args w,Sem.run prog (callFunc gf args) w=.ok (.enter gf args) w:=eg;obtain⟨A,c,rfl⟩:=lC.isSlice;have hO:=ah lC;clear lC hf;go_enter func99,ntmps99
 go_wp2_with fail;refine hI.O.mono ?_
 rintro e W1 ⟨rfl,hb1⟩;cases ha:l.any del
 ·have hid:idxOf del l= -1:=by unfold idxOf;rw[ha];rfl
  have hfl:=ah (show(l.filter λx=>!del x)=l from oO.2 λx hx=>by
   have:=qp.1 ha x hx;simpa using this)
  rw[hid];clear hid ha;go_wp2_with fail;go_ret
  exact⟨.slice A l.length c,rfl,by rw[hfl.O];exact hO.O.below hb1,.of_below hb1,rfl⟩
 ·obtain⟨i0,hi0⟩:∃i0,l.findIdx del=i0:=⟨_,rfl⟩;have hid:idxOf del l=(i0:Int):=by unfold idxOf;rw[ha,hi0];rfl
  obtain⟨hlt0,jdR⟩:=jaY ha;rw[hi0]at hlt0 jdR
  obtain⟨g,c',hv,hgb,hgl⟩:=hO.O.some_ (by omega)
  injection hv with e1 _ e2
  subst e1 e2;rw[hid];have hne1:((i0:Int)== -1)=false:=by simp
  have hw0:IntKind.i64.wrap ((i0:Int)+1)=(i0:Int)+1:=by rw[jY];omega
  have hob:=ah (show(Value.slice (some ⟨g,0,none⟩) l.length c).ownBlock=some g from rfl)
  have htk:=ah jdR;have hcap:=ah (show l.length<=c/\c<=9223372036854775807 from by
   obtain⟨g2,c2,cur,e1,_,_,h2,h3,_⟩:=hO.O.row (by omega)
   injection e1 with _ _ e2
   subst e2;unfold maxLen at h3
   exact⟨h2,by omega⟩)
  clear hid ha hi0 jdR;go_wp2_with fail;clear hw0 hne1;go_loopw[6,5,7] (λa b _ wr=>∃(j i:Nat) (m:List dZ),j<=l.length/\a=.int .i64 j/\b=.int .i64 i/\i<j/\m.length=l.length/\m.take i=((l.take j).filter λx=>!del x)/\m.drop j=l.drop j/\Own ig 4 46 wr aO (.slice (some ⟨g,0,none⟩) l.length c) m/\
   Step (λq=>(Value.slice (some ⟨g,0,none⟩) l.length c).ownBlock=some q) w wr) (λa _ _ _=>l.length - (RowKit.intOf a).toNat)
  case atStart=>
   exact⟨i0+1,i0,l,by omega,by go_num,rfl,by omega,rfl,htk.O.symm,rfl,hO.O.below hb1,.of_below hb1⟩
  case round=>
   obtain⟨j,i,m,hj,rfl,rfl,hij,hml,hmt,hmd,hm,hst⟩:=hrel;have hmt':=ah hmt;have jiy:=ah hmd;have hm':=ah hm;have hst':=ah hst;clear hmt hmd hm hst htk;by_cases hlt:j<l.length
   ·have hji:(j:Int)<(l.length:Int):=by omega
    have hii:(i:Int)<(l.length:Int):=by omega
    have hjm:j<m.length:=by omega
    have hmj:m[j]=hold l j:=by
     have h1:(m.drop j)[0]?=(l.drop j)[0]?:=by rw[jiy.O]
     rw[mO,mO,jB,bf hjm,bf hlt]at h1
     injection h1 with h1
     rw[h1,iL hlt]
    obtain⟨g1,c1,cur,e1,_,Cc,yu⟩:=hm'.O.at (λ_=>rfl) hjm
    injection e1 with e1 e2 e3
    injection e1 with e1
    injection e1 with e1
    subst e1;clear e2 e3;rw[hmj]at yu
    clear hmj;have hml':=ah hml;clear hml hjm;have d0:wr.cell? ⟨g,j*4,none⟩=_:=yu 0 _ rfl;have d1:=yu 1 _ rfl;have d2:=yu 2 _ rfl;have d3:=yu 3 _ rfl;have hsa:Step (λq=>(Value.slice (some ⟨g,0,none⟩) l.length c).ownBlock=some q) w (wr.alloc (.cells #[.int .i64 (hold l j).aC,.int .i64 (hold l j).aG,.int .i64 (hold l j).bin,.int .i64 (hold l j).n] 46)):=hst'.O.trans (.of_below ((aj _ _).alloc (au _) _))
    have hbl:=ah (iV.new wr 46 #[.int .i64 (hold l j).aC,.int .i64 (hold l j).aG,.int .i64 (hold l j).bin,.int .i64 (hold l j).n]);have hma:=ah (hm'.O.alloc (.cells #[.int .i64 (hold l j).aC,.int .i64 (hold l j).aG,.int .i64 (hold l j).bin,.int .i64 (hold l j).n] 46));clear yu Cc;go_wp2_with fail;clear d0 d1 d2 d3;refine(hF.O j hlt _ hsa).mono ?_
    rintro e W3 ⟨rfl,hb3⟩;have hm3:=hma.O.below hb3;have H6:=hbl.O.below hb3 hbl.O.lt;have hst3:=ah (hsa.trans (.of_below hb3));have c0:=H6.cell (j:=0) rfl;have c1:=H6.cell (j:=1) rfl;have c2:=H6.cell (j:=2) rfl;have c3:=H6.cell (j:=3) rfl;have hdj:del l[j]=del (hold l j):=by rw[iL hlt]
    have hd1:m.drop (j+1)=l.drop (j+1):=by rw[<- rW,jiy.O,rW]
    have N8:=ah hd1;clear hsa hma hbl hm' hst' hd1;cases hd:del (hold l j)
    ·have hyes:=ah (Hu hlt (λx=>!del x) (by rw[hdj,hd];rfl))
     have hw1:IntKind.i64.wrap ((i:Int)+1)=(i:Int)+1:=by rw[jY];omega
     clear hd hdj;go_wp2_with (refine Qg rfl (.tmp 33) (.tmp 32) 46 rfl rfl hm3 (λ_=>rfl) (i:=i) (by rw[hml'.O];omega) (hold l j) jf4 (zu _) rfl rfl (λw4 Uw hg4=>?_);refine aW ?_)
     unfold Hid;have jiq:=ah Uw;have jnb:=ah (hst3.O.trans (.jR hg4 λk hk=>hob.O.trans hk))
     clear c0 c1 c2 c3 hm3 H6 Uw hg4 hb3;go_wp2_with fail;go_roundw
     case rel=>
      refine⟨j+1,i+1,m.set i (hold l j),by omega,by go_num,by go_num,by omega,by rw[jU];exact hml'.O,?_,?_,jiq.O,jnb.O⟩
      ·rw[hyes.O,<- hmt'.O,iL hlt,dO (by rw[jU,hml'.O];omega),pY,Cm (au _)]
      ·rw[CO (by omega),N8.O]
     case measure=>simp[RowKit.intOf];omega
    ·have hno:=ah (Fe hlt (λx=>!del x) (by rw[hdj,hd];rfl))
     have jny:=ah hm3;clear hd hdj hm3 H6 hb3;go_wp2_with fail;clear c0 c1 c2 c3;go_roundw
     case rel=>exact⟨j+1,i,m,by omega,by go_num,rfl,by omega,hml'.O,by rw[hno.O];exact hmt'.O,N8.O,jny.O,hst3.O⟩
     case measure=>simp[RowKit.intOf];omega
   ·obtain rfl:j=l.length:=by omega
    obtain⟨W5,jiP,AY,hg5⟩:=hm'.O.cut (P:=prog) (λ_=>rfl) (i:=i) (by omega) (t:=28) underlying28 jaO rfl (by simp[Value.cells,Value.oneCell'])
    have bK:=ah (show m.take i=l.filter λx=>!del x by rw[hmt'.O,fG])
    have jnq:=ah AY;have hst5:=ah (hst'.O.trans (.jR hg5 λk hk=>hob.O.trans hk))
    have hi1:(i:Int)<=(l.length:Int):=by omega
    have hcp:=hcap.O;have hi2:i<=c:=by omega
    have hi3:¬c=i:=by omega
    have hi4:i<=l.length:=by omega
    clear AY hg5 hm' hst';go_wp2_with fail;go_ret
    exact⟨.slice (some ⟨g,0,none⟩) i c,rfl,by rw[<- bK.O];exact jnq.O,hst5.O,rfl⟩
theorem jf2:(prog.info? 48).map (·.size)=some 4:=by kernel_rfl
theorem jct(w:World)(aO:Nat)(v:Value)(l:List Move)(gf:FuncId)(lb:Array Value)(del:Move->Bool)(eg:Enters prog gf)(lC:Own nP 4 48 w aO v l)(hn:l.length<=1000000)
  (hf:∀k,k<l.length->∀W,Step (λq=>v.ownBlock=some q) w W->Calls prog gf (#[D8 (bH l k)]++lb) W λe W'=>e=.returned (.bool (del (bH l k)))/\Below W.heap.size W W'):
  Calls prog 116 #[v,.func (.func gf) #[] lb] w λe w'=>∃v',e=.returned v'/\Own nP 4 48 w' aO v' (l.filter λx=>!del x)/\Step (λq=>v.ownBlock=some q) w w'/\v'.ownBlock=v.ownBlock:=by
 have hI:=ah (PW w v l gf lb del eg (lC.sl (by omega)) (λk hk W hW=>hf k hk W (.of_below hW)))
 have hF:=ah hf;have hl:l.length<=140737488355232:=by omega
 have eg':∀args w,Sem.run prog (callFunc gf args) w=.ok (.enter gf args) w:=eg;obtain⟨A,c,rfl⟩:=lC.isSlice;have hO:=ah lC;clear lC hf;go_enter func116,ntmps116
 go_wp2_with fail;refine hI.O.mono ?_
 rintro e W1 ⟨rfl,hb1⟩;cases ha:l.any del
 ·have hid:idxOf del l= -1:=by unfold idxOf;rw[ha];rfl
  have hfl:=ah (show(l.filter λx=>!del x)=l from oO.2 λx hx=>by
   have:=qp.1 ha x hx;simpa using this)
  rw[hid];clear hid ha;go_wp2_with fail;go_ret
  exact⟨.slice A l.length c,rfl,by rw[hfl.O];exact hO.O.below hb1,.of_below hb1,rfl⟩
 ·obtain⟨i0,hi0⟩:∃i0,l.findIdx del=i0:=⟨_,rfl⟩;have hid:idxOf del l=(i0:Int):=by unfold idxOf;rw[ha,hi0];rfl
  obtain⟨hlt0,jdR⟩:=jaY ha;rw[hi0]at hlt0 jdR
  obtain⟨g,c',hv,hgb,hgl⟩:=hO.O.some_ (by omega)
  injection hv with e1 _ e2
  subst e1 e2;rw[hid];have hne1:((i0:Int)== -1)=false:=by simp
  have hw0:IntKind.i64.wrap ((i0:Int)+1)=(i0:Int)+1:=by rw[jY];omega
  have hob:=ah (show(Value.slice (some ⟨g,0,none⟩) l.length c).ownBlock=some g from rfl)
  have htk:=ah jdR;have hcap:=ah (show l.length<=c/\c<=9223372036854775807 from by
   obtain⟨g2,c2,cur,e1,_,_,h2,h3,_⟩:=hO.O.row (by omega)
   injection e1 with _ _ e2
   subst e2;unfold maxLen at h3
   exact⟨h2,by omega⟩)
  clear hid ha hi0 jdR;go_wp2_with fail;clear hw0 hne1;go_loopw[6,5,7] (λa b _ wr=>∃(j i:Nat) (m:List Move),j<=l.length/\a=.int .i64 j/\b=.int .i64 i/\i<j/\m.length=l.length/\m.take i=((l.take j).filter λx=>!del x)/\m.drop j=l.drop j/\Own nP 4 48 wr aO (.slice (some ⟨g,0,none⟩) l.length c) m/\
   Step (λq=>(Value.slice (some ⟨g,0,none⟩) l.length c).ownBlock=some q) w wr) (λa _ _ _=>l.length - (RowKit.intOf a).toNat)
  case atStart=>
   exact⟨i0+1,i0,l,by omega,by go_num,rfl,by omega,rfl,htk.O.symm,rfl,hO.O.below hb1,.of_below hb1⟩
  case round=>
   obtain⟨j,i,m,hj,rfl,rfl,hij,hml,hmt,hmd,hm,hst⟩:=hrel;have hmt':=ah hmt;have jiy:=ah hmd;have hm':=ah hm;have hst':=ah hst;clear hmt hmd hm hst htk;by_cases hlt:j<l.length
   ·have hji:(j:Int)<(l.length:Int):=by omega
    have hii:(i:Int)<(l.length:Int):=by omega
    have hjm:j<m.length:=by omega
    have hmj:m[j]=bH l j:=by
     have h1:(m.drop j)[0]?=(l.drop j)[0]?:=by rw[jiy.O]
     rw[mO,mO,jB,bf hjm,bf hlt]at h1
     injection h1 with h1
     rw[h1,pI hlt]
    obtain⟨g1,c1,cur,e1,_,Cc,yu⟩:=hm'.O.at (λ_=>rfl) hjm
    injection e1 with e1 e2 e3
    injection e1 with e1
    injection e1 with e1
    subst e1;clear e2 e3;rw[hmj]at yu
    clear hmj;have hml':=ah hml;clear hml hjm;have d0:wr.cell? ⟨g,j*4,none⟩=_:=yu 0 _ rfl;have d1:=yu 1 _ rfl;have d2:=yu 2 _ rfl;have d3:=yu 3 _ rfl;have hsa:Step (λq=>(Value.slice (some ⟨g,0,none⟩) l.length c).ownBlock=some q) w (wr.alloc (.cells #[.int .i64 (bH l j).dh,.int .i64 (bH l j).src,.int .i64 (bH l j).dst,.int .i64 (bH l j).n] 48)):=hst'.O.trans (.of_below ((aj _ _).alloc (au _) _))
    have hbl:=ah (iV.new wr 48 #[.int .i64 (bH l j).dh,.int .i64 (bH l j).src,.int .i64 (bH l j).dst,.int .i64 (bH l j).n]);have hma:=ah (hm'.O.alloc (.cells #[.int .i64 (bH l j).dh,.int .i64 (bH l j).src,.int .i64 (bH l j).dst,.int .i64 (bH l j).n] 48));clear yu Cc;go_wp2_with fail;clear d0 d1 d2 d3;refine(hF.O j hlt _ hsa).mono ?_
    rintro e W3 ⟨rfl,hb3⟩;have hm3:=hma.O.below hb3;have H6:=hbl.O.below hb3 hbl.O.lt;have hst3:=ah (hsa.trans (.of_below hb3));have c0:=H6.cell (j:=0) rfl;have c1:=H6.cell (j:=1) rfl;have c2:=H6.cell (j:=2) rfl;have c3:=H6.cell (j:=3) rfl;have hdj:del l[j]=del (bH l j):=by rw[pI hlt]
    have hd1:m.drop (j+1)=l.drop (j+1):=by rw[<- rW,jiy.O,rW]
    have N8:=ah hd1;clear hsa hma hbl hm' hst' hd1;cases hd:del (bH l j)
    ·have hyes:=ah (Hu hlt (λx=>!del x) (by rw[hdj,hd];rfl))
     have hw1:IntKind.i64.wrap ((i:Int)+1)=(i:Int)+1:=by rw[jY];omega
     clear hd hdj;go_wp2_with (refine Qg rfl (.tmp 33) (.tmp 32) 48 rfl rfl hm3 (λ_=>rfl) (i:=i) (by rw[hml'.O];omega) (bH l j) jf2 (O4 _) rfl rfl (λw4 Uw hg4=>?_);refine aW ?_)
     unfold Hid;have jiq:=ah Uw;have jnb:=ah (hst3.O.trans (.jR hg4 λk hk=>hob.O.trans hk))
     clear c0 c1 c2 c3 hm3 H6 Uw hg4 hb3;go_wp2_with fail;go_roundw
     case rel=>
      refine⟨j+1,i+1,m.set i (bH l j),by omega,by go_num,by go_num,by omega,by rw[jU];exact hml'.O,?_,?_,jiq.O,jnb.O⟩
      ·rw[hyes.O,<- hmt'.O,pI hlt,dO (by rw[jU,hml'.O];omega),pY,Cm (au _)]
      ·rw[CO (by omega),N8.O]
     case measure=>simp[RowKit.intOf];omega
    ·have hno:=ah (Fe hlt (λx=>!del x) (by rw[hdj,hd];rfl))
     have jny:=ah hm3;clear hd hdj hm3 H6 hb3;go_wp2_with fail;clear c0 c1 c2 c3;go_roundw
     case rel=>exact⟨j+1,i,m,by omega,by go_num,rfl,by omega,hml'.O,by rw[hno.O];exact hmt'.O,N8.O,jny.O,hst3.O⟩
     case measure=>simp[RowKit.intOf];omega
   ·obtain rfl:j=l.length:=by omega
    obtain⟨W5,jiP,AY,hg5⟩:=hm'.O.cut (P:=prog) (λ_=>rfl) (i:=i) (by omega) (t:=29) underlying29 jaN rfl (by simp[Value.cells,Value.oneCell'])
    have bK:=ah (show m.take i=l.filter λx=>!del x by rw[hmt'.O,fG])
    have jnq:=ah AY;have hst5:=ah (hst'.O.trans (.jR hg5 λk hk=>hob.O.trans hk))
    have hi1:(i:Int)<=(l.length:Int):=by omega
    have hcp:=hcap.O;have hi2:i<=c:=by omega
    have hi3:¬c=i:=by omega
    have hi4:i<=l.length:=by omega
    clear AY hg5 hm' hst';go_wp2_with fail;go_ret
    exact⟨.slice (some ⟨g,0,none⟩) i c,rfl,by rw[<- bK.O];exact jnq.O,hst5.O,rfl⟩
end Wh
