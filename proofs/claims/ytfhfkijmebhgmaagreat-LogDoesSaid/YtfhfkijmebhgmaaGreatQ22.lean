/- Texts of the claim, joined. -/
import Derived.Test.YtfhfkijmebhgmaaGreatQ09
set_option maxHeartbeats 20000000
set_option maxRecDepth 100000
namespace Wh
open Go Go.RowKit
section
variable {P:Program} {l:List Oper} {n:Nat} {R:Nat→(Nat→Value)→World→Prop} {Q:Exit→Act→World→Prop} {a:Act} {w:World}
def Na (P:Program) (l:List Oper) (n:Nat) (R:Nat→(Nat→Value)→World→Prop) (Q:Exit→Act→World→Prop) (a:Act) (T J:World→Prop) (Eb:World→World→Prop) (brk i:Nat) (o:Oper):Prop:=
 ∀ f w',T w'→(i=brk→J w')→IU n R f w' o→
  o.wp P (fU a (l.take n) f) w' (fun a' w''=>∃ v,a'=(fU a (l.take n) f).put o.dst v∧R i (kH f o.dst v) w''∧((i≠brk∧Below w'.heap.size w' w'')∨(i=brk∧Eb w' w''))) Q
theorem jc1 {T J:World→Prop} {Eb:World→World→Prop} {brk:Nat} (hT1:∀ w1 w2,T w1→Below w1.heap.size w1 w2→T w2) (hT2:∀ w1 w2,T w1→Eb w1 w2→T w2) (hJ:∀ w1 w2,J w1→Below w1.heap.size w1 w2→J w2) (hle:n≤l.length) (Oa:∀ listed,HeadInv .any l.toArray n listed→∀ i,i<n→listed.getD i true=false→∀ t,n≤t→t ∉ Region.ready .any l.toArray listed) (hseq:Region.seqB .any l.toArray (l.length - n) n (heads l.length n)=true)
  (hg:∀ i o,i<n→l[i]?=some o→o.guard=none) (hnd:((l.take n).filterMap (·.dst)).Nodup) (hback:∀ i o,i<n→l[i]?=some o→∀ e∈o.after,Region.binds .any e=true→e.on<i)
  (hst:∀ i g w1 w2,R i g w1→Below w1.heap.size w1 w2→R i g w2) (hst2:∀ i g w1 w2,i≠brk→R i g w1→Eb w1 w2→R i g w2) (hsup:∀ i g g' w,(∀ j o d,JQ l j i→l[j]?=some o→o.dst=some d→g d=g' d)→R i g w→R i g' w) (hsteps:∀ i o,i<n→l[i]?=some o→Na P l n R Q a T J Eb brk i o)
  (hend:∀ f w',T w'→(∀ i,i<n→R i f w')→wpList P l.toArray Q (l.drop n) (fU a (l.take n) f) w'):
  ∀ (k:Nat) (listed:Array Bool) (f:Nat→Value) (w':World),HeadInv .any l.toArray n listed→Qi listed n=k→T w'→(listed.getD brk false=false→J w')→(∀ i,i<n→listed.getD i false=true→R i f w')→
   wpAny P .any l.toArray Q (k+(l.length - n)) listed (fU a (l.take n) f) w'
 |0,listed,f,w',inv,hk,hb,_,hR=>by
  have hsz:listed.size=l.length:=by rw [inv.size];simp
  have he:listed=heads l.length n:=by
   apply Eo;intro i;unfold heads;rw [Qb]
   simp only [Qa];by_cases hi:i<n
   ·rw [ak hi];have h1:=BM hk hi;have h2:i<listed.size:=by omega
    simp [hi,h2,Array.getD] at h1 ⊢
    exact h1
   ·rw [ah hi];by_cases hl:i<l.length
    ·have h1:=inv.tail i (by omega) (by simpa using hl)
     have h2:i<listed.size:=by omega
     have h3:i - n<l.length - n:=by omega
     simp [h2,h3,Array.getD] at h1 ⊢
     exact h1
    ·rw [qh (by omega),qh (by simp;omega)]
  have hd:l.length - n=(l.drop n).length:=by simp
  rw [iV,hd];refine wpAny_of_seq (l.drop n) n listed _ w' (fun j=>by simp [rP]) (by rw [he,← hd];exact hseq) (hend f w' hb fun i hin=>hR i hin ?_)
  have h1:=BM hk hin;have h2:i<listed.size:=by omega
  simp [h2,Array.getD] at h1 ⊢
  exact h1
 |k+1,listed,f,w',inv,hk,hb,hJw,hR=>by
  have hsz:listed.size=l.length:=by rw [inv.size];simp
  obtain ⟨i0,hi0,hu0⟩:=VB (show 0<Qi listed n by omega)
  have hne:∀ i,i<n→listed.getD i true=false→Region.ready .any l.toArray listed≠[]:=by
   intro i;induction i using Nat.strongRecOn with
   |_ i ih=>
    intro hin hu;have hil:i<l.length:=by omega
    by_cases hall:∀ e∈(l[i]).after,Region.binds .any e=true→listed.getD e.on false=true
    ·have:i∈Region.ready .any l.toArray listed:=wI.2 ⟨hu,l[i],by simp [hil],hall⟩
     intro h0;rw [h0] at this
     cases this
    ·simp only [PZ] at hall
     obtain ⟨e,he,hbd,hno⟩:=hall;have hlt:=hback i l[i] hin (by simp [hil]) e he hbd
     exact ih e.on hlt (by omega) (getD_in (by omega) (by simpa using hno))
  rw [show k+1+(l.length - n)=(k+(l.length - n))+1 by omega]
  refine ⟨fun h0=>absurd h0 (hne i0 hi0 hu0),fun i hi=>?_⟩
  have hin:i<n:=by
   rcases Ed i n with h|h
   ·exact h
   ·exact absurd hi (Oa listed inv i0 hi0 hu0 i h)
  obtain ⟨hu,o,ho,hall⟩:=wI.1 hi;have ho':l[i]?=some o:=by simpa using ho
  have hgd:=hg i o hin ho';have h1:=hsteps i o hin ho' f w' hb (fun e=>hJw (by rw [← e];exact getD_both hu)) fun e he hbd hen=>hR e.on hen (hall e he hbd)
  unfold wpOp;simp only [ho];rw [ak (by simp [Region.wanted,hgd])]
  refine .inl (AX ?_ h1)
  rintro a' w'' ⟨v,rfl,hv,hbw⟩;have hcount:Qi (listed.setIfInBounds i true) n=k:=by
   have:=VA hu n;rw [ak hin] at this
   omega
  have hb2:T w'':=by
   rcases hbw with ⟨_,hbw⟩|⟨_,hbw⟩
   ·exact hT1 _ _ hb hbw
   ·exact hT2 _ _ hb hbw
  have hJ2:(listed.setIfInBounds i true).getD brk false=false→J w'':=fun h=>by
   rcases hbw with ⟨hne,hbw⟩|⟨rfl,_⟩
   ·rw [wK false hne] at h
    exact hJ _ _ (hJw h) hbw
   ·rw [yJ false (Je hu)] at h
    cases h
  have MJ:∀ j k,JQ l j k→k<n→listed.getD k false=true→j<n∧listed.getD j false=true:=by
   intro j k h;induction h with
   |self=>exact fun h1 h2=>⟨h1,h2⟩
   |back ho he hbd hon _ ih=>
    intro h1 h2;subst hon;have:=hback _ _ h1 ho _ he hbd;exact ih (by omega) (inv.closed _ _ (by simpa using ho) h2 _ he hbd)
  have hfin:(fU a (l.take n) f).put o.dst v=fU a (l.take n) (kH f o.dst v):=by
   cases hdst:o.dst with
   |none=>rfl
   |some d0=>
    unfold fU Act.put kH;simp only;rw [NH (Ag ho' hin hdst)]
  rw [hfin];refine jc1 hT1 hT2 hJ hle Oa hseq hg hnd hback hst hst2 hsup hsteps hend k _ (kH f o.dst v) w'' (inv.set hi hin) hcount hb2 hJ2 fun j hjn hl=>?_
  by_cases hij:i=j
  ·subst hij;exact hv
  ·rw [wK false hij] at hl
   refine hsup j f _ _ (fun j' oj d haj hoj hd=>?_) (by
    rcases hbw with ⟨_,hbw⟩|⟨rfl,hbw⟩
    ·exact hst _ _ _ _ (hR j hjn hl) hbw
    ·exact hst2 _ _ _ _ (fun e=>hij e.symm) (hR j hjn hl) hbw)
   obtain ⟨jf4,Zd⟩:=MJ _ _ haj hjn hl;cases hdst:o.dst with
   |none=>rfl
   |some d0=>
    have hne:i≠j':=fun e=>by
     subst e;rw [getD_both hu] at Zd
     cases Zd
    have hdd:=jbZ hnd ho' hin hdst hoj jf4 hd hne;unfold kH upd;simp only;rw [ah (fun e=>hdd e.symm)]
theorem ji4 (n:Nat) (T J:World→Prop) (Eb:World→World→Prop) (brk:Nat) (R:Nat→(Nat→Value)→World→Prop) (hB:Et l n=true) (hT1:∀ w1 w2,T w1→Below w1.heap.size w1 w2→T w2) (hT2:∀ w1 w2,T w1→Eb w1 w2→T w2) (hJ:∀ w1 w2,J w1→Below w1.heap.size w1 w2→J w2) (hT0:T w.drew) (hJ0:J w.drew)
  (hst:∀ i g w1 w2,R i g w1→Below w1.heap.size w1 w2→R i g w2) (hst2:∀ i g w1 w2,i≠brk→R i g w1→Eb w1 w2→R i g w2)
  (hsup:∀ i g g' w,(∀ j o d,JQ l j i→l[j]?=some o→o.dst=some d→g d=g' d)→R i g w→R i g' w) (hsteps:∀ i o,i<n→l[i]?=some o→Na P l n R Q a T J Eb brk i o)
  (hend:∀ f w',T w'→(∀ i,i<n→R i f w')→wpList P l.toArray Q (l.drop n) (fU a (l.take n) f) w'):wpAny P .any l.toArray Q l.toArray.size (Array.replicate l.toArray.size false) a w.drew:=by
 simp only [Et,dL,mO,dR,bY] at hB
 obtain ⟨⟨⟨⟨hw,hseq⟩,hg⟩,hnd⟩,hback⟩:=hB;have hle:n≤l.length:=by rcases hw with h|h<;>omega
 have hat:∀ i o,i<n→l[i]?=some o→o∈l.take n:=fun i o hin hi=>by
  rw [Le];exact ⟨i,by rw [nI];simp [hin,hi]⟩
 have H:=jc1 (P:=P) (Q:=Q) (a:=a) hT1 hT2 hJ hle ?_ hseq (fun i o hin hi=>by simpa using hg o (hat i o hin hi)) hnd ?_ hst hst2 hsup hsteps hend n (Array.replicate l.toArray.size false) (fun d=>a.tmps.getD d undef) w.drew
  ⟨by simp,fun j oj _ hl=>(by rw [getD_replicate_false] at hl;cases hl),fun t _ ht=>getD_in (by simpa using ht) (getD_replicate_false _ _)⟩ ?_ hT0 (fun _=>hJ0) (fun i _ hl=>by rw [getD_replicate_false] at hl;cases hl)
 ·have e:fU a (l.take n) (fun d=>a.tmps.getD d undef)=a:=by
   unfold fU;rw [KF]
  rw [e] at H
  have hs:n+(l.length - n)=l.toArray.size:=by simp;omega
  rw [hs] at H
  exact H
 ·intro listed inv i hin hu t ht hr;rcases hw with h|⟨⟨h1,h2⟩,h3⟩
  ·obtain ⟨_,o,ho,_⟩:=wI.1 hr;have:=(gX.1 ho).1
   simp at this
   omega
  ·exact tail_waits h2 h3 (by simpa using h1) inv (n - i) i rfl hin hu t ht hr
 ·intro i o hin hi e he hbd;have:=hback i (lu.2 hin);rw [hi] at this
  simp only [pq,uD,Ep,mO,yY,dR] at this
  rcases this e he with h|h
  ·rw [h] at hbd;cases hbd
  ·exact h
 ·have key:∀ m,m≤l.length→Qi (Array.replicate l.toArray.size false) m=m:=by
   intro m;induction m with
   |zero=>intro _;rfl
   |succ m ih=>
    intro hm;have:=ih (by omega)
    unfold Qi at this ⊢
    have hml:m<l.length:=by omega
    rw [wL,GK,this];simp [hml]
  exact key n hle
theorem dO.mono {P:Program} {o:Oper} {ev:Operand→Value} {w:World} {K K':Value→World→Prop} (hk:∀ v w,K v w→K' v w) (h:dO P o ev w K):dO P o ev w K':=by
 unfold dO at*
 generalize (execOp ev o).run P w=r at*
 cases r with
 |ok n w'=>
  cases n<;>simp only at h ⊢
  case value v=>exact hk _ _ h
  case skip=>exact hk _ _ h
  case enter f args=>exact h.mono fun e w'' ⟨v,he,h⟩=>⟨v,he,hk _ _ h⟩
 |halt x w'=>exact h
theorem Na.of {T J:World→Prop} {Eb:World→World→Prop} {brk:Nat} {i:Nat} {o:Oper} (hi:i<n) (hB:Et l n=true) (hsz:((l.take n).filterMap (·.dst)).all (fun d=>decide (d<a.tmps.size))=true)
  (hsup:∀ i g g' w,(∀ j o d,JQ l j i→l[j]?=some o→o.dst=some d→g d=g' d)→R i g w→R i g' w)
  (h:∀ (g:Nat→Value) w',T w'→(i=brk→J w')→(∀ d,((l.take n).filterMap (·.dst)).contains d=false→g d=a.tmps.getD d undef)→IU n R g w' o→dO P o (Xt g) w' fun v w''=>R i (kH g o.dst v) w''∧((i≠brk∧Below w'.heap.size w' w'')∨(i=brk∧Eb w' w''))):
  Na P l n R Q a T J Eb brk i o:=by
 simp only [Et,dL,mO,dR,bY] at hB
 obtain ⟨_,hback⟩:=hB;have Ru:∀ k oe,k<n→l[k]?=some oe→∀ e∈oe.after,Region.binds .any e=true→e.on<k:=fun k oe hk hoe e he hbd=>by
  have:=hback k (lu.2 hk);rw [hoe] at this
  simp only [pq,uD,Ep,mO,yY,dR] at this
  rcases this e he with h|h
  ·rw [h] at hbd;cases hbd
  ·exact h
 have MJ:∀ j k,JQ l j k→k<n→j<n:=by
  intro j k h;induction h with
  |self=>exact id
  |back ho he hbd hon _ ih=>
   intro h1;subst hon;have:=Ru _ _ h1 ho _ he hbd;exact ih (by omega)
 have hsz':∀ d∈(l.take n).filterMap (·.dst),d<a.tmps.size:=fun d hd=>by
  have:=bY.1 hsz d hd;simpa using this
 intro f w' hb hj hd;have hg:∀ d∈(l.take n).filterMap (·.dst),(fU a (l.take n) f).tmps.getD d undef=f d:=fun d hd=>by
  have h1:=tY ((l.take n).filterMap (·.dst)) f a.tmps d
  rw [ak (hsz' d hd),ak hd] at h1
  unfold fU;simp only [Bz,h1,uD]
 have ho:∀ d,((l.take n).filterMap (·.dst)).contains d=false→(fU a (l.take n) f).tmps.getD d undef=a.tmps.getD d undef:=fun d hd=>by
  have h1:=tY ((l.take n).filterMap (·.dst)) f a.tmps d
  have h2:d ∉ (l.take n).filterMap (·.dst):=by simpa using hd
  rw [ah h2] at h1
  unfold fU;simp only [Bz,h1];by_cases hl:d<a.tmps.size
  ·rw [ak hl]
  ·rw [ah hl,qh (Gq hl)]
 have key:=h (fun d=>(fU a (l.take n) f).tmps.getD d undef) w' hb hj ho (fun e he hbd hen=>hsup e.on f _ _ (fun j oj d haj hoj hdj=>(hg d (Ag hoj (MJ _ _ haj hen) hdj)).symm) (hd e he hbd hen))
 rw [← RV] at key
 refine AX ?_ key.wp
 rintro a' w'' ⟨v,rfl,hr,hbw⟩;refine ⟨v,rfl,hsup i _ _ _ (fun j oj d haj hoj hdj=>?_) hr,hbw⟩
 have hjn:=MJ _ _ haj hi;have hmem:=Ag hoj hjn hdj;cases hdst:o.dst with
 |none=>exact hg d hmem
 |some d0=>
  unfold kH upd;simp only;split
  ·rfl
  ·exact hg d hmem
def fV (P:Program) (l:List Oper) (n:Nat) (Rs:List oL) (a:Act) (T J:World→Prop) (Eb:World→World→Prop) (brk i:Nat) (o:Oper) (p:oL):Prop:=
 (∀ g w1 w2,p g w1→Below w1.heap.size w1 w2→p g w2)∧(i≠brk→∀ g w1 w2,p g w1→Eb w1 w2→p g w2)∧(∀ g g' w,(∀ j o d,JQ l j i→l[j]?=some o→o.dst=some d→g d=g' d)→p g w→p g' w)∧
 ∀ g w',T w'→(i=brk→J w')→(∀ d,((l.take n).filterMap (·.dst)).contains d=false→g d=a.tmps.getD d undef)→IU n (atR Rs) g w' o→
  dO P o (Xt g) w' fun v w''=>p (kH g o.dst v) w''∧((i≠brk∧Below w'.heap.size w' w'')∨(i=brk∧Eb w' w''))
def bZ (P:Program) (l:List Oper) (n:Nat) (Rs:List oL) (a:Act) (T J:World→Prop) (Eb:World→World→Prop) (brk:Nat):Nat→List Oper→List oL→Prop
 |_,[],_=>True
 |_,_::_,[]=>False
 |i,o::r,p::ps=>fV P l n Rs a T J Eb brk i o p∧bZ P l n Rs a T J Eb brk (i+1) r ps
section
variable {Rs:List oL} {T J:World→Prop} {Eb:World→World→Prop} {brk:Nat}
theorem bZ.at:∀ {r:List Oper} {ps:List oL} {k:Nat},bZ P l n Rs a T J Eb brk k r ps→∀ {j:Nat} {o:Oper},r[j]?=some o→fV P l n Rs a T J Eb brk (k+j) o (ps.getD j (fun _ _=>True))
 |[],_,_,_,_,_,h=>by simp at h
 |_::_,[],_,h,_,_,_=>h.elim
 |x::r,p::ps,k,h,0,o,hj=>by
  simp at hj
  subst hj;exact h.1
 |x::r,p::ps,k,h,j+1,o,hj=>by
  have:=bZ.at h.2 (j:=j) (o:=o) (by simpa using hj)
  rw [show k+1+j=k+(j+1) by omega] at this
  simpa using this
theorem bZ.nil {i:Nat} {ps:List oL}:bZ P l n Rs a T J Eb brk i [] ps:=by cases ps<;>bP
theorem bZ.cons {i:Nat} {o:Oper} {r:List Oper} {p:oL} {ps:List oL} (h:fV P l n Rs a T J Eb brk i o p) (h':bZ P l n Rs a T J Eb brk (i+1) r ps):bZ P l n Rs a T J Eb brk i (o::r) (p::ps):=⟨h,h'⟩
end
theorem jac (n:Nat) (T J:World→Prop) (Eb:World→World→Prop) (brk:Nat) (Rs:List oL) (hB:Et l n=true) (hn:Rs.length=n) (hsz:((l.take n).filterMap (·.dst)).all (fun d=>decide (d<a.tmps.size))=true)
  (hT1:∀ w1 w2,T w1→Below w1.heap.size w1 w2→T w2) (hT2:∀ w1 w2,T w1→Eb w1 w2→T w2) (hJ:∀ w1 w2,J w1→Below w1.heap.size w1 w2→J w2) (hT0:T w.drew) (hJ0:J w.drew)
  (hops:bZ P l n Rs a T J Eb brk 0 (l.take n) Rs) (hend:∀ f w',T w'→SY Rs f w'→wpList P l.toArray Q (l.drop n) (fU a (l.take n) f) w'):wpAny P .any l.toArray Q l.toArray.size (Array.replicate l.toArray.size false) a w.drew:=by
 have hle:n≤l.length:=by
  have:=hB;simp only [Et,dL,mO,dR] at this
  rcases this.1.1.1.1 with h|h<;>omega
 have hat:∀ i,i<n→∃ o,l[i]?=some o∧fV P l n Rs a T J Eb brk i o (atR Rs i):=fun i hi=>by
  have hil:i<l.length:=by omega
  refine ⟨l[i],by simp [hil],?_⟩
  have:=hops.at (j:=i) (o:=l[i]) (by rw [nI];simp [hi,hil])
  rwa [iV] at this
 have Q7:∀ i g w,¬ i<n→atR Rs i g w:=fun i g w hi=>by
  unfold atR;rw [jm,Ei (by omega)]
  bP
 have hsup:∀ i g g' w,(∀ j o d,JQ l j i→l[j]?=some o→o.dst=some d→g d=g' d)→atR Rs i g w→atR Rs i g' w:=fun i g g' w1 he h=>by
  by_cases hi:i<n
  ·obtain ⟨o,_,_,_,h2,_⟩:=hat i hi;exact h2 g g' w1 he h
  ·exact Q7 i g' w1 hi
 refine ji4 n T J Eb brk (atR Rs) hB hT1 hT2 hJ hT0 hJ0 (fun i g w1 w2 h hb=>?_) (fun i g w1 w2 hne h hb=>?_) hsup (fun i o hi ho=>?_) (fun f w' hb hR=>hend f w' hb (SY.of fun i hi=>hR i (by omega)))
 ·by_cases hi:i<n
  ·obtain ⟨o,_,h1,_⟩:=hat i hi;exact h1 g w1 w2 h hb
  ·exact Q7 i g w2 hi
 ·by_cases hi:i<n
  ·obtain ⟨o,_,_,h1,_⟩:=hat i hi;exact h1 hne g w1 w2 h hb
  ·exact Q7 i g w2 hi
 ·obtain ⟨o',ho',_,_,_,h3⟩:=hat i hi;rw [ho] at ho'
  injection ho' with ho'
  subst ho';exact Na.of hi hB hsz hsup h3
theorem wP (n:Nat) (T J:World→Prop) (Eb:World→World→Prop) (brk:Nat) (Rs:List oL) {id:Nat} (hm:P.follows .mixedOrders=true) (hB:Et l n=true) (hn:Rs.length=n) (hsz:((l.take n).filterMap (·.dst)).all (fun d=>decide (d<a.tmps.size))=true)
  (hT1:∀ w1 w2,T w1→Below w1.heap.size w1 w2→T w2) (hT2:∀ w1 w2,T w1→Eb w1 w2→T w2) (hJ:∀ w1 w2,J w1→Below w1.heap.size w1 w2→J w2) (hT0:T w.drew) (hJ0:J w.drew)
  (hops:bZ P l n Rs a T J Eb brk 0 (l.take n) Rs) (hend:∀ f w',T w'→SY Rs f w'→wpList P l.toArray Q (l.drop n) (fU a (l.take n) f) w'):(Code.region id l.toArray true).wp P Q a w:=
 Pj hm (jac n T J Eb brk Rs hB hn hsz hT1 hT2 hJ hT0 hJ0 hops hend)
section
variable {Rs:List oL} {T J:World→Prop} {Eb:World→World→Prop} {brk:Nat}
theorem fV.val {i d:Nat} {o:Oper} {c:Value} (hi:l[i]?=some o) (ho:o.dst=some d) (hne:i≠brk)
  (h:∀ g w',T w'→(∀ d,((l.take n).filterMap (·.dst)).contains d=false→g d=a.tmps.getD d undef)→IU n (atR Rs) g w' o→(execOp (Xt g) o).run P w'=.ok (.value c) w'):
  fV P l n Rs a T J Eb brk i o (fun g _=>g d=c):=by
 refine ⟨fun _ _ _ h _=>h,fun _ _ _ _ h _=>h,fun g g' _ he h=>(he i o d (JQ.self i) hi ho).symm.trans h,fun g w' hb _ hout hd=>?_⟩
 unfold dO;rw [h g w' hb hout hd];refine ⟨?_,.inl ⟨hne,aj _ _⟩⟩
 rw [ho];unfold kH upd;simp
theorem fV.one {i d:Nat} {o:Oper} {p:Value→World→Prop} (hi:l[i]?=some o) (ho:o.dst=some d) (hne:i≠brk) (hst:∀ v w1 w2,p v w1→Below w1.heap.size w1 w2→p v w2) (hst2:∀ v w1 w2,p v w1→Eb w1 w2→p v w2)
  (h:∀ g w',T w'→(∀ d,((l.take n).filterMap (·.dst)).contains d=false→g d=a.tmps.getD d undef)→IU n (atR Rs) g w' o→dO P o (Xt g) w' fun v w''=>p v w''∧Below w'.heap.size w' w''):
  fV P l n Rs a T J Eb brk i o (fun g w=>p (g d) w):=by
 refine ⟨fun g w1 w2 h hb=>hst _ _ _ h hb,fun _ g w1 w2 h hb=>hst2 _ _ _ h hb,fun g g' w1 he h=>?_,fun g w' hb _ hout hd=>?_⟩
 ·show p (g' d) w1;rw [← he i o d (JQ.self i) hi ho];exact h
 ·have h1:=h g w' hb hout hd;rw [ho];have e:∀ v,kH g (some d) v d=v:=fun v=>by unfold kH upd;simp
  simp only [e];exact dO.mono (fun v w'' h=>⟨h.1,.inl ⟨hne,h.2⟩⟩) h1
end
end
end Wh
