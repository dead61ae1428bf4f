/- Texts of the claim, joined. -/
import Derived.Test.YtfhfkijmebhgmaaGreatQ23
set_option maxHeartbeats 20000000
set_option maxRecDepth 100000
namespace Wh
open Go Go.RowKit
section
variable {P:Program} {l:List Oper} {n:Nat} {R:Nat→Nat→(Nat→Value)→World→Prop} {Q:Exit→Act→World→Prop} {a:Act} {w:World}
def jae (P:Program) (l:List Oper) (n:Nat) (R:Nat→Nat→(Nat→Value)→World→Prop) (Q:Exit→Act→World→Prop) (a:Act) (T:Nat→World→Prop) (Eb:Nat→World→World→Prop) (b1 b2 i:Nat) (o:Oper):Prop:=
 ∀ ph f w',T ph w'→(i=b1→ph=0)→(i=b2→ph=1)→IU n (R ph) f w' o→
  o.wp P (fU a (l.take n) f) w' (fun a' w''=>∃ v,a'=(fU a (l.take n) f).put o.dst v∧R (zM b1 b2 i ph) i (kH f o.dst v) w''∧((i≠b1∧i≠b2∧Below w'.heap.size w' w'')∨(i=b1∧Eb 0 w' w'')∨(i=b2∧Eb 1 w' w''))) Q
theorem jcq {T:Nat→World→Prop} {Eb:Nat→World→World→Prop} {b1 b2:Nat} (xJ:b1≠b2) (h1n:b1<n) (h2n:b2<n) (hw:∀ o,l[b2]?=some o→∃ e∈o.after,Region.binds .any e=true∧e.on=b1) (hT1:∀ ph w1 w2,T ph w1→Below w1.heap.size w1 w2→T ph w2) (hT2:∀ k w1 w2,k≤1→T k w1→Eb k w1 w2→T (k+1) w2) (hle:n≤l.length) (Oa:∀ listed,HeadInv .any l.toArray n listed→∀ i,i<n→listed.getD i true=false→∀ t,n≤t→t ∉ Region.ready .any l.toArray listed) (hseq:Region.seqB .any l.toArray (l.length - n) n (heads l.length n)=true)
  (hg:∀ i o,i<n→l[i]?=some o→o.guard=none) (hnd:((l.take n).filterMap (·.dst)).Nodup) (hback:∀ i o,i<n→l[i]?=some o→∀ e∈o.after,Region.binds .any e=true→e.on<i)
  (hst:∀ ph i g w1 w2,R ph i g w1→Below w1.heap.size w1 w2→R ph i g w2) (hst2:∀ k i g w1 w2,k≤1→i≠bkN b1 b2 k→R k i g w1→Eb k w1 w2→R (k+1) i g w2) (hsup:∀ ph i g g' w,(∀ j o d,JQ l j i→l[j]?=some o→o.dst=some d→g d=g' d)→R ph i g w→R ph i g' w) (hsteps:∀ i o,i<n→l[i]?=some o→jae P l n R Q a T Eb b1 b2 i o)
  (hend:∀ f w',T 2 w'→(∀ i,i<n→R 2 i f w')→wpList P l.toArray Q (l.drop n) (fU a (l.take n) f) w'):
  ∀ (k:Nat) (listed:Array Bool) (f:Nat→Value) (w':World),HeadInv .any l.toArray n listed→Qi listed n=k→T (phN b1 b2 listed) w'→(∀ i,i<n→listed.getD i false=true→R (phN b1 b2 listed) i f w')→
   wpAny P .any l.toArray Q (k+(l.length - n)) listed (fU a (l.take n) f) w'
 |0,listed,f,w',inv,hk,hb,hR=>by
  have hsz:listed.size=l.length:=by rw [inv.size];simp
  have he:listed=heads l.length n:=by
   apply Eo;intro i;unfold heads;rw [Qb]
   simp only [Qa];by_cases hi:i<n
   ·rw [ak hi];have h1:=BM hk hi;have h2:i<listed.size:=by omega
    simp [hi,h2,Array.getD] at h1 ⊢
    exact h1
   ·rw [ah hi];by_cases hl:i<l.length
    ·have h1:=inv.tail i (by omega) (by simpa using hl)
     have h2:i<listed.size:=by omega
     have h3:i - n<l.length - n:=by omega
     simp [h2,h3,Array.getD] at h1 ⊢
     exact h1
    ·rw [qh (by omega),qh (by simp;omega)]
  have hd:l.length - n=(l.drop n).length:=by simp
  have h3:phN b1 b2 listed=2:=by
   have key:∀ b,b<n→listed.getD b false=true:=fun b hb=>by
    have h1:=BM hk hb;have h2:b<listed.size:=by omega
    simp [h2,Array.getD] at h1 ⊢
    exact h1
   unfold phN;rw [ak (key _ h1n),ak (key _ h2n)]
  rw [h3] at hR hb
  rw [iV,hd];refine wpAny_of_seq (l.drop n) n listed _ w' (fun j=>by simp [rP]) (by rw [he,← hd];exact hseq) (hend f w' hb fun i hin=>hR i hin ?_)
  have h1:=BM hk hin;have h2:i<listed.size:=by omega
  simp [h2,Array.getD] at h1 ⊢
  exact h1
 |k+1,listed,f,w',inv,hk,hb,hR=>by
  have hsz:listed.size=l.length:=by rw [inv.size];simp
  obtain ⟨i0,hi0,hu0⟩:=VB (show 0<Qi listed n by omega)
  have hne:∀ i,i<n→listed.getD i true=false→Region.ready .any l.toArray listed≠[]:=by
   intro i;induction i using Nat.strongRecOn with
   |_ i ih=>
    intro hin hu;have hil:i<l.length:=by omega
    by_cases hall:∀ e∈(l[i]).after,Region.binds .any e=true→listed.getD e.on false=true
    ·have:i∈Region.ready .any l.toArray listed:=wI.2 ⟨hu,l[i],by simp [hil],hall⟩
     intro h0;rw [h0] at this
     cases this
    ·simp only [PZ] at hall
     obtain ⟨e,he,hbd,hno⟩:=hall;have hlt:=hback i l[i] hin (by simp [hil]) e he hbd
     exact ih e.on hlt (by omega) (getD_in (by omega) (by simpa using hno))
  rw [show k+1+(l.length - n)=(k+(l.length - n))+1 by omega]
  refine ⟨fun h0=>absurd h0 (hne i0 hi0 hu0),fun i hi=>?_⟩
  have hin:i<n:=by
   rcases Ed i n with h|h
   ·exact h
   ·exact absurd hi (Oa listed inv i0 hi0 hu0 i h)
  obtain ⟨hu,o,ho,hall⟩:=wI.1 hi;have ho':l[i]?=some o:=by simpa using ho
  have hgd:=hg i o hin ho';have hoff:i=b1→listed.getD b1 false=false∧listed.getD b2 false=false:=fun e=>by
   have h1:listed.getD b1 false=false:=by rw [← e];exact getD_both hu
   refine ⟨h1,?_⟩
   cases h2:listed.getD b2 false
   ·rfl
   ·have hl2:b2<l.length:=by omega
    obtain ⟨e',he',hbd,hon⟩:=hw l[b2] (by simp [hl2])
    have:=inv.closed b2 l[b2] (by simp [hl2]) h2 e' he' hbd
    rw [hon,h1] at this
    cases this
  have jjr:i=b2→listed.getD b1 false=true∧listed.getD b2 false=false:=fun e=>by
   have h2:listed.getD b2 false=false:=by rw [← e];exact getD_both hu
   obtain ⟨e',he',hbd,hon⟩:=hw o (by rw [← e];exact ho')
   have:=hall e' he' hbd;rw [hon] at this
   exact ⟨this,h2⟩
  have jfM:i=b1→phN b1 b2 listed=0:=fun e=>by
   obtain ⟨h1,h2⟩:=hoff e;unfold phN;rw [h1,h2];rfl
  have jfL:i=b2→phN b1 b2 listed=1:=fun e=>by
   obtain ⟨h1,h2⟩:=jjr e;unfold phN;rw [h1,h2];rfl
  have h1:=hsteps i o hin ho' (phN b1 b2 listed) f w' hb jfM jfL fun e he hbd hen=>hR e.on hen (hall e he hbd)
  unfold wpOp;simp only [ho];rw [ak (by simp [Region.wanted,hgd])]
  refine .inl (AX ?_ h1)
  rintro a' w'' ⟨v,rfl,hv,hbw⟩;have hcount:Qi (listed.setIfInBounds i true) n=k:=by
   have:=VA hu n;rw [ak hin] at this
   omega
  have hb2:T (zM b1 b2 i (phN b1 b2 listed)) w'':=by
   rcases hbw with ⟨hne,hne2,hbw⟩|⟨he,hbw⟩|⟨he,hbw⟩
   ·unfold zM;rw [ah hne,ah hne2];exact hT1 _ _ _ hb hbw
   ·rw [jfM he] at hb
    unfold zM;rw [ak he];exact hT2 0 _ _ (by omega) hb hbw
   ·rw [jfL he] at hb
    unfold zM;rw [ah (fun e=>xJ (e.symm.trans he)),ak he]
    exact hT2 1 _ _ (by omega) hb hbw
  have hph:phN b1 b2 (listed.setIfInBounds i true)=zM b1 b2 i (phN b1 b2 listed):=by
   unfold phN zM;by_cases e1:i=b1
   ·obtain ⟨q1,q2⟩:=hoff e1;subst e1;rw [yJ false (Je hu),wK false xJ,q2];simp
   ·by_cases e2:i=b2
    ·obtain ⟨q1,q2⟩:=jjr e2;subst e2;rw [yJ false (Je hu),wK false e1,q1];simp [e1]
    ·rw [wK false e1,wK false e2,ah e1,ah e2]
  have MJ:∀ j k,JQ l j k→k<n→listed.getD k false=true→j<n∧listed.getD j false=true:=by
   intro j k h;induction h with
   |self=>exact fun h1 h2=>⟨h1,h2⟩
   |back ho he hbd hon _ ih=>
    intro h1 h2;subst hon;have:=hback _ _ h1 ho _ he hbd;exact ih (by omega) (inv.closed _ _ (by simpa using ho) h2 _ he hbd)
  have hfin:(fU a (l.take n) f).put o.dst v=fU a (l.take n) (kH f o.dst v):=by
   cases hdst:o.dst with
   |none=>rfl
   |some d0=>
    unfold fU Act.put kH;simp only;rw [NH (Ag ho' hin hdst)]
  rw [hfin];refine jcq xJ h1n h2n hw hT1 hT2 hle Oa hseq hg hnd hback hst hst2 hsup hsteps hend k _ (kH f o.dst v) w'' (inv.set hi hin) hcount (by rw [hph];exact hb2) fun j hjn hl=>?_
  rw [hph];by_cases hij:i=j
  ·subst hij;exact hv
  ·rw [wK false hij] at hl
   refine hsup _ j f _ _ (fun j' oj d haj hoj hd=>?_) (by
    rcases hbw with ⟨hne,hne2,hbw⟩|⟨he,hbw⟩|⟨he,hbw⟩
    ·unfold zM;rw [ah hne,ah hne2];exact hst _ _ _ _ _ (hR j hjn hl) hbw
    ·have h0:=hR j hjn hl;rw [jfM he] at h0
     unfold zM;rw [ak he];exact hst2 0 _ _ _ _ (by omega) (fun e=>hij (by rw [e];exact he)) h0 hbw
    ·have h0:=hR j hjn hl;rw [jfL he] at h0
     unfold zM;rw [ah (fun e=>xJ (e.symm.trans he)),ak he]
     exact hst2 1 _ _ _ _ (by omega) (fun e=>hij (by rw [e];exact he)) h0 hbw)
   obtain ⟨jf4,Zd⟩:=MJ _ _ haj hjn hl;cases hdst:o.dst with
   |none=>rfl
   |some d0=>
    have hne:i≠j':=fun e=>by
     subst e;rw [getD_both hu] at Zd
     cases Zd
    have hdd:=jbZ hnd ho' hin hdst hoj jf4 hd hne;unfold kH upd;simp only;rw [ah (fun e=>hdd e.symm)]
theorem Tf (n:Nat) (T:Nat→World→Prop) (Eb:Nat→World→World→Prop) (b1 b2:Nat) (xJ:b1≠b2) (h1n:b1<n) (h2n:b2<n) (hw:∀ o,l[b2]?=some o→∃ e∈o.after,Region.binds .any e=true∧e.on=b1) (R:Nat→Nat→(Nat→Value)→World→Prop) {id:Nat} (hm:P.follows .mixedOrders=true) (hB:Et l n=true) (hT1:∀ ph w1 w2,T ph w1→Below w1.heap.size w1 w2→T ph w2) (hT2:∀ k w1 w2,k≤1→T k w1→Eb k w1 w2→T (k+1) w2) (hT0:T 0 w.drew)
  (hst:∀ ph i g w1 w2,R ph i g w1→Below w1.heap.size w1 w2→R ph i g w2) (hst2:∀ k i g w1 w2,k≤1→i≠bkN b1 b2 k→R k i g w1→Eb k w1 w2→R (k+1) i g w2)
  (hsup:∀ ph i g g' w,(∀ j o d,JQ l j i→l[j]?=some o→o.dst=some d→g d=g' d)→R ph i g w→R ph i g' w) (hsteps:∀ i o,i<n→l[i]?=some o→jae P l n R Q a T Eb b1 b2 i o)
  (hend:∀ f w',T 2 w'→(∀ i,i<n→R 2 i f w')→wpList P l.toArray Q (l.drop n) (fU a (l.take n) f) w'):(Code.region id l.toArray true).wp P Q a w:=by
 simp only [Et,dL,mO,dR,bY] at hB
 obtain ⟨⟨⟨⟨hww,hseq⟩,hg⟩,hnd⟩,hback⟩:=hB;have hle:n≤l.length:=by rcases hww with h|h<;>omega
 have hat:∀ i o,i<n→l[i]?=some o→o∈l.take n:=fun i o hin hi=>by
  rw [Le];exact ⟨i,by rw [nI];simp [hin,hi]⟩
 refine Pj hm ?_
 have H:=jcq (P:=P) (Q:=Q) (a:=a) xJ h1n h2n hw hT1 hT2 hle ?_ hseq (fun i o hin hi=>by simpa using hg o (hat i o hin hi)) hnd ?_ hst hst2 hsup hsteps hend n (Array.replicate l.toArray.size false) (fun d=>a.tmps.getD d undef) w.drew
  ⟨by simp,fun j oj _ hl=>(by rw [getD_replicate_false] at hl;cases hl),fun t _ ht=>getD_in (by simpa using ht) (getD_replicate_false _ _)⟩ ?_ (by have e:phN b1 b2 (Array.replicate l.toArray.size false)=0:=(by unfold phN;rw [getD_replicate_false,getD_replicate_false];rfl);rw [e];exact hT0) (fun i _ hl=>by rw [getD_replicate_false] at hl;cases hl)
 ·have e:fU a (l.take n) (fun d=>a.tmps.getD d undef)=a:=by
   unfold fU;rw [KF]
  rw [e] at H
  have hs:n+(l.length - n)=l.toArray.size:=by simp;omega
  rw [hs] at H
  exact H
 ·intro listed inv i hin hu t ht hr;rcases hww with h|⟨⟨h1,h2⟩,h3⟩
  ·obtain ⟨_,o,ho,_⟩:=wI.1 hr;have:=(gX.1 ho).1
   simp at this
   omega
  ·exact tail_waits h2 h3 (by simpa using h1) inv (n - i) i rfl hin hu t ht hr
 ·intro i o hin hi e he hbd;have:=hback i (lu.2 hin);rw [hi] at this
  simp only [pq,uD,Ep,mO,yY,dR] at this
  rcases this e he with h|h
  ·rw [h] at hbd;cases hbd
  ·exact h
 ·have key:∀ m,m≤l.length→Qi (Array.replicate l.toArray.size false) m=m:=by
   intro m;induction m with
   |zero=>intro _;rfl
   |succ m ih=>
    intro hm;have:=ih (by omega)
    unfold Qi at this ⊢
    have hml:m<l.length:=by omega
    rw [wL,GK,this];simp [hml]
  exact key n hle
theorem jae.of {T:Nat→World→Prop} {Eb:Nat→World→World→Prop} {b1 b2:Nat} {i:Nat} {o:Oper} (hi:i<n) (hB:Et l n=true) (hsz:((l.take n).filterMap (·.dst)).all (fun d=>decide (d<a.tmps.size))=true)
  (hsup:∀ ph i g g' w,(∀ j o d,JQ l j i→l[j]?=some o→o.dst=some d→g d=g' d)→R ph i g w→R ph i g' w)
  (h:∀ ph (g:Nat→Value) w',T ph w'→(i=b1→ph=0)→(i=b2→ph=1)→(∀ d,((l.take n).filterMap (·.dst)).contains d=false→g d=a.tmps.getD d undef)→IU n (R ph) g w' o→dO P o (Xt g) w' fun v w''=>R (zM b1 b2 i ph) i (kH g o.dst v) w''∧((i≠b1∧i≠b2∧Below w'.heap.size w' w'')∨(i=b1∧Eb 0 w' w'')∨(i=b2∧Eb 1 w' w''))):
  jae P l n R Q a T Eb b1 b2 i o:=by
 simp only [Et,dL,mO,dR,bY] at hB
 obtain ⟨_,hback⟩:=hB;have Ru:∀ k oe,k<n→l[k]?=some oe→∀ e∈oe.after,Region.binds .any e=true→e.on<k:=fun k oe hk hoe e he hbd=>by
  have:=hback k (lu.2 hk);rw [hoe] at this
  simp only [pq,uD,Ep,mO,yY,dR] at this
  rcases this e he with h|h
  ·rw [h] at hbd;cases hbd
  ·exact h
 have MJ:∀ j k,JQ l j k→k<n→j<n:=by
  intro j k h;induction h with
  |self=>exact id
  |back ho he hbd hon _ ih=>
   intro h1;subst hon;have:=Ru _ _ h1 ho _ he hbd;exact ih (by omega)
 have hsz':∀ d∈(l.take n).filterMap (·.dst),d<a.tmps.size:=fun d hd=>by
  have:=bY.1 hsz d hd;simpa using this
 intro ph f w' hb hj hj2 hd;have hg:∀ d∈(l.take n).filterMap (·.dst),(fU a (l.take n) f).tmps.getD d undef=f d:=fun d hd=>by
  have h1:=tY ((l.take n).filterMap (·.dst)) f a.tmps d
  rw [ak (hsz' d hd),ak hd] at h1
  unfold fU;simp only [Bz,h1,uD]
 have ho:∀ d,((l.take n).filterMap (·.dst)).contains d=false→(fU a (l.take n) f).tmps.getD d undef=a.tmps.getD d undef:=fun d hd=>by
  have h1:=tY ((l.take n).filterMap (·.dst)) f a.tmps d
  have h2:d ∉ (l.take n).filterMap (·.dst):=by simpa using hd
  rw [ah h2] at h1
  unfold fU;simp only [Bz,h1];by_cases hl:d<a.tmps.size
  ·rw [ak hl]
  ·rw [ah hl,qh (Gq hl)]
 have key:=h ph (fun d=>(fU a (l.take n) f).tmps.getD d undef) w' hb hj hj2 ho (fun e he hbd hen=>hsup _ e.on f _ _ (fun j oj d haj hoj hdj=>(hg d (Ag hoj (MJ _ _ haj hen) hdj)).symm) (hd e he hbd hen))
 rw [← RV] at key
 refine AX ?_ key.wp
 rintro a' w'' ⟨v,rfl,hr,hbw⟩;refine ⟨v,rfl,hsup _ i _ _ _ (fun j oj d haj hoj hdj=>?_) hr,hbw⟩
 have hjn:=MJ _ _ haj hi;have hmem:=Ag hoj hjn hdj;cases hdst:o.dst with
 |none=>exact hg d hmem
 |some d0=>
  unfold kH upd;simp only;split
  ·rfl
  ·exact hg d hmem
def CV (P:Program) (l:List Oper) (n:Nat) (Rs:List (Nat→oL)) (a:Act) (T:Nat→World→Prop) (Eb:Nat→World→World→Prop) (b1 b2 i:Nat) (o:Oper) (p:Nat→oL):Prop:=
 (∀ ph g w1 w2,p ph g w1→Below w1.heap.size w1 w2→p ph g w2)∧(∀ k,k≤1→i≠bkN b1 b2 k→∀ g w1 w2,p k g w1→Eb k w1 w2→p (k+1) g w2)∧(∀ ph g g' w,(∀ j o d,JQ l j i→l[j]?=some o→o.dst=some d→g d=g' d)→p ph g w→p ph g' w)∧
 ∀ ph g w',T ph w'→(i=b1→ph=0)→(i=b2→ph=1)→(∀ d,((l.take n).filterMap (·.dst)).contains d=false→g d=a.tmps.getD d undef)→IU n (atP Rs ph) g w' o→
  dO P o (Xt g) w' fun v w''=>p (zM b1 b2 i ph) (kH g o.dst v) w''∧((i≠b1∧i≠b2∧Below w'.heap.size w' w'')∨(i=b1∧Eb 0 w' w'')∨(i=b2∧Eb 1 w' w''))
def oM (P:Program) (l:List Oper) (n:Nat) (Rs:List (Nat→oL)) (a:Act) (T:Nat→World→Prop) (Eb:Nat→World→World→Prop) (b1 b2:Nat):Nat→List Oper→List (Nat→oL)→Prop
 |_,[],_=>True
 |_,_::_,[]=>False
 |i,o::r,p::ps=>CV P l n Rs a T Eb b1 b2 i o p∧oM P l n Rs a T Eb b1 b2 (i+1) r ps
section
variable {Rs:List (Nat→oL)} {T:Nat→World→Prop} {Eb:Nat→World→World→Prop} {b1 b2:Nat}
theorem oM.at:∀ {r:List Oper} {ps:List (Nat→oL)} {k:Nat},oM P l n Rs a T Eb b1 b2 k r ps→∀ {j:Nat} {o:Oper},r[j]?=some o→CV P l n Rs a T Eb b1 b2 (k+j) o (ps.getD j (fun _ _ _=>True))
 |[],_,_,_,_,_,h=>by simp at h
 |_::_,[],_,h,_,_,_=>h.elim
 |x::r,p::ps,k,h,0,o,hj=>by
  simp at hj
  subst hj;exact h.1
 |x::r,p::ps,k,h,j+1,o,hj=>by
  have:=oM.at h.2 (j:=j) (o:=o) (by simpa using hj)
  rw [show k+1+j=k+(j+1) by omega] at this
  simpa using this
theorem oM.nil {i:Nat} {ps:List (Nat→oL)}:oM P l n Rs a T Eb b1 b2 i [] ps:=by cases ps<;>bP
theorem oM.cons {i:Nat} {o:Oper} {r:List Oper} {p:Nat→oL} {ps:List (Nat→oL)} (h:CV P l n Rs a T Eb b1 b2 i o p) (h':oM P l n Rs a T Eb b1 b2 (i+1) r ps):oM P l n Rs a T Eb b1 b2 i (o::r) (p::ps):=⟨h,h'⟩
end
theorem GX (n:Nat) (T:Nat→World→Prop) (Eb:Nat→World→World→Prop) (b1 b2:Nat) (xJ:b1≠b2) (h1n:b1<n) (h2n:b2<n) (hw:∀ o,l[b2]?=some o→∃ e∈o.after,Region.binds .any e=true∧e.on=b1) (Rs:List (Nat→oL)) {id:Nat} (hm:P.follows .mixedOrders=true) (hB:Et l n=true) (hn:Rs.length=n) (hsz:((l.take n).filterMap (·.dst)).all (fun d=>decide (d<a.tmps.size))=true)
  (hT1:∀ ph w1 w2,T ph w1→Below w1.heap.size w1 w2→T ph w2) (hT2:∀ k w1 w2,k≤1→T k w1→Eb k w1 w2→T (k+1) w2) (hT0:T 0 w.drew)
  (hops:oM P l n Rs a T Eb b1 b2 0 (l.take n) Rs) (hend:∀ f w',T 2 w'→SY (Rs.map fun p=>p 2) f w'→wpList P l.toArray Q (l.drop n) (fU a (l.take n) f) w'):(Code.region id l.toArray true).wp P Q a w:=by
 have hle:n≤l.length:=by
  have:=hB;simp only [Et,dL,mO,dR] at this
  rcases this.1.1.1.1 with h|h<;>omega
 have hat:∀ i,i<n→∃ o,l[i]?=some o∧CV P l n Rs a T Eb b1 b2 i o (fun ph=>atP Rs ph i):=fun i hi=>by
  have hil:i<l.length:=by omega
  refine ⟨l[i],by simp [hil],?_⟩
  have:=hops.at (j:=i) (o:=l[i]) (by rw [nI];simp [hi,hil])
  rwa [iV] at this
 have Q7:∀ ph i g w,¬ i<n→atP Rs ph i g w:=fun ph i g w hi=>by
  unfold atP;rw [jm,Ei (by omega)]
  bP
 have hsup:∀ ph i g g' w,(∀ j o d,JQ l j i→l[j]?=some o→o.dst=some d→g d=g' d)→atP Rs ph i g w→atP Rs ph i g' w:=fun ph i g g' w1 he h=>by
  by_cases hi:i<n
  ·obtain ⟨o,_,_,_,h2,_⟩:=hat i hi;exact h2 ph g g' w1 he h
  ·exact Q7 ph i g' w1 hi
 refine Tf n T Eb b1 b2 xJ h1n h2n hw (atP Rs) hm hB hT1 hT2 hT0 (fun ph i g w1 w2 h hb=>?_) (fun k i g w1 w2 hk hne h hb=>?_) hsup (fun i o hi ho=>?_) (fun f w' hb hR=>hend f w' hb (SY.of fun i hi=>?_))
 ·by_cases hi:i<n
  ·obtain ⟨o,_,h1,_⟩:=hat i hi;exact h1 ph g w1 w2 h hb
  ·exact Q7 ph i g w2 hi
 ·by_cases hi:i<n
  ·obtain ⟨o,_,_,h1,_⟩:=hat i hi;exact h1 k hk hne g w1 w2 h hb
  ·exact Q7 (k+1) i g w2 hi
 ·obtain ⟨o',ho',_,_,_,h3⟩:=hat i hi;rw [ho] at ho'
  injection ho' with ho'
  subst ho';exact jae.of hi hB hsz hsup h3
 ·rw [kF,hn] at hi
  have h:=hR i hi;have hl:i<Rs.length:=by omega
  simp only [atP,atR,jm,qc,fF hl,pq,uD] at h ⊢
  exact h
section
variable {Rs:List (Nat→oL)} {T:Nat→World→Prop} {Eb:Nat→World→World→Prop} {b1 b2:Nat}
theorem CV.val {i d:Nat} {o:Oper} {c:Value} (hi:l[i]?=some o) (ho:o.dst=some d) (hne:i≠b1) (hne2:i≠b2)
  (h:∀ ph g w',T ph w'→(∀ d,((l.take n).filterMap (·.dst)).contains d=false→g d=a.tmps.getD d undef)→IU n (atP Rs ph) g w' o→(execOp (Xt g) o).run P w'=.ok (.value c) w'):
  CV P l n Rs a T Eb b1 b2 i o (fun _ g _=>g d=c):=by
 refine ⟨fun _ _ _ _ h _=>h,fun _ _ _ _ _ _ h _=>h,fun _ g g' _ he h=>(he i o d (JQ.self i) hi ho).symm.trans h,fun ph g w' hb _ _ hout hd=>?_⟩
 unfold dO;rw [h ph g w' hb hout hd];refine ⟨?_,.inl ⟨hne,hne2,aj _ _⟩⟩
 rw [ho];unfold kH upd;simp
theorem CV.one {i d:Nat} {o:Oper} {p:Nat→Value→World→Prop} (hi:l[i]?=some o) (ho:o.dst=some d) (hne:i≠b1) (hne2:i≠b2) (hst:∀ ph v w1 w2,p ph v w1→Below w1.heap.size w1 w2→p ph v w2) (hst2:∀ k v w1 w2,k≤1→p k v w1→Eb k w1 w2→p (k+1) v w2)
  (h:∀ ph g w',T ph w'→(∀ d,((l.take n).filterMap (·.dst)).contains d=false→g d=a.tmps.getD d undef)→IU n (atP Rs ph) g w' o→dO P o (Xt g) w' fun v w''=>p ph v w''∧Below w'.heap.size w' w''):
  CV P l n Rs a T Eb b1 b2 i o (fun ph g w=>p ph (g d) w):=by
 refine ⟨fun ph g w1 w2 h hb=>hst _ _ _ _ h hb,fun k hk _ g w1 w2 h hb=>hst2 k _ _ _ hk h hb,fun ph g g' w1 he h=>?_,fun ph g w' hb _ _ hout hd=>?_⟩
 ·show p ph (g' d) w1;rw [← he i o d (JQ.self i) hi ho];exact h
 ·have h1:=h ph g w' hb hout hd;unfold zM;rw [ho,ah hne,ah hne2];have e:∀ v,kH g (some d) v d=v:=fun v=>by unfold kH upd;simp
  simp only [e];exact dO.mono (fun v w'' h=>⟨h.1,.inl ⟨hne,hne2,h.2⟩⟩) h1
theorem CV.first {d:Nat} {o:Oper} {p:Nat→Value→World→Prop} (hi:l[b1]?=some o) (ho:o.dst=some d) (hst:∀ ph v w1 w2,p ph v w1→Below w1.heap.size w1 w2→p ph v w2) (hst2:∀ v w1 w2,p 1 v w1→Eb 1 w1 w2→p 2 v w2)
  (h:∀ g w',T 0 w'→(∀ d,((l.take n).filterMap (·.dst)).contains d=false→g d=a.tmps.getD d undef)→IU n (atP Rs 0) g w' o→dO P o (Xt g) w' fun v w''=>p 1 v w''∧Eb 0 w' w''):
  CV P l n Rs a T Eb b1 b2 b1 o (fun ph g w=>p ph (g d) w):=by
 refine ⟨fun ph g w1 w2 h hb=>hst _ _ _ _ h hb,fun k hk hne g w1 w2 h hb=>?_,fun ph g g' w1 he h=>?_,fun ph g w' hb hph _ hout hd=>?_⟩
 ·rcases (show k=0∨k=1 by omega) with rfl|rfl
  ·exact absurd rfl hne
  ·exact hst2 _ _ _ h hb
 ·show p ph (g' d) w1;rw [← he b1 o d (JQ.self b1) hi ho];exact h
 ·obtain rfl:=hph rfl;have h1:=h g w' hb hout hd;have e1:zM b1 b2 b1 0=1:=ak rfl;have e:∀ v,kH g (some d) v d=v:=fun v=>by unfold kH upd;simp
  rw [ho,e1];refine dO.mono (fun v w'' h=>⟨?_,.inr (.inl ⟨rfl,h.2⟩)⟩) h1
  show p 1 (kH g (some d) v d) w'';rw [e];exact h.1
theorem CV.second {o:Oper} {p:(Nat→Value)→World→Prop} (xJ:b1≠b2) (ho:o.dst=none) (hst:∀ g w1 w2,p g w1→Below w1.heap.size w1 w2→p g w2)
  (hsup:∀ g g' w,(∀ j o d,JQ l j b2→l[j]?=some o→o.dst=some d→g d=g' d)→p g w→p g' w)
  (h:∀ g w',T 1 w'→(∀ d,((l.take n).filterMap (·.dst)).contains d=false→g d=a.tmps.getD d undef)→IU n (atP Rs 1) g w' o→dO P o (Xt g) w' fun _ w''=>p g w''∧Eb 1 w' w''):
  CV P l n Rs a T Eb b1 b2 b2 o (fun ph g w=>ph=2∧p g w):=by
 refine ⟨fun ph g w1 w2 h hb=>⟨h.1,hst _ _ _ h.2 hb⟩,fun k hk hne g w1 w2 h hb=>?_,fun ph g g' w1 he h=>⟨h.1,hsup g g' w1 he h.2⟩,fun ph g w' hb _ hph hout hd=>?_⟩
 ·exact absurd h.1 (by omega)
 ·obtain rfl:=hph rfl;have h1:=h g w' hb hout hd;have e1:zM b1 b2 b2 1=2:=by unfold zM;rw [ah (fun e=>xJ e.symm),ak rfl]
  rw [ho,e1];exact dO.mono (fun v w'' h=>⟨⟨rfl,h.1⟩,.inr (.inr ⟨rfl,h.2⟩)⟩) h1
end
end
end Wh
