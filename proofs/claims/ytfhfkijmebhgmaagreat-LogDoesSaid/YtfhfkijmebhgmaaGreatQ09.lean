/- Texts of the claim, joined. -/
import Derived.StillTail
import Derived.Laws.Tables
import Derived.Test.YtfhfkijmebhgmaaGreatQ08
set_option maxHeartbeats 20000000
set_option maxRecDepth 100000
namespace Wh
open Go Go.RowKit
def qZ (t:Array Value) (ds:List Nat) (f:Nat→Value):Array Value:=ds.foldl (fun t d=>t.setIfInBounds d (f d)) t
def fU (a:Act) (l:List Oper) (f:Nat→Value):Act:={a with tmps:=qZ a.tmps (l.filterMap (·.dst)) f}
def upd (f:Nat→Value) (d:Nat) (v:Value) (k:Nat):Value:=if k=d then v else f k
theorem tY (ds:List Nat) (f:Nat→Value):∀ (t:Array Value) (k:Nat),(qZ t ds f)[k]?=if k<t.size then (if k∈ds then some (f k) else t[k]?) else none:=by
 induction ds with
 |nil=>
  intro t k;show t[k]?=_;by_cases h:k<t.size
  ·simp [h]
  ·simp [h]
 |cons d ds ih=>
  intro t k;show (qZ (t.setIfInBounds d (f d)) ds f)[k]?=_;rw [ih,P9,XU]
  by_cases h:k<t.size
  ·by_cases hk:k∈ds
   ·simp [h,hk]
   ·by_cases hd:d=k
    ·subst hd;simp [h,hk]
    ·have hd':¬ k=d:=fun e=>hd e.symm
     simp [h,hk,hd,hd']
  ·simp [h]
theorem NH {t:Array Value} {ds:List Nat} {f:Nat→Value} {d:Nat} (hd:d∈ds) (v:Value):(qZ t ds f).setIfInBounds d v=qZ t ds (upd f d v):=by
 apply Eo;intro k;rw [XU,tY,tY]
 have hs:(qZ t ds f).size=t.size:=by
  unfold qZ;induction ds generalizing t with
  |nil=>rfl
  |cons e ds ih=>
   by_cases h:d∈ds
   ·rw [jH,ih h,P9]
   ·have aux:∀ (ds:List Nat) (t:Array Value),(ds.foldl (fun t d=>t.setIfInBounds d (f d)) t).size=t.size:=by
     intro ds;induction ds with
     |nil=>intro t;rfl
     |cons x xs ihx=>intro t;rw [jH,ihx,P9]
    exact aux _ _
 rw [hs];unfold upd;by_cases h:k<t.size
 ·by_cases hk:d=k
  ·subst hk;simp [h,hd]
  ·have hk':¬ k=d:=fun e=>hk e.symm
   simp [h,hk,hk']
 ·by_cases hk:d=k
  ·subst hk;simp [h]
  ·simp [h,hk]
theorem KF (t:Array Value) (ds:List Nat):qZ t ds (fun d=>t.getD d undef)=t:=by
 apply Eo;intro k;rw [tY];by_cases h:k<t.size
 ·by_cases hk:k∈ds<;>simp [h,hk,Array.getD]
 ·simp [h]
inductive JQ (l:List Oper):Nat→Nat→Prop
 |self (i:Nat):JQ l i i
 |back {j k i:Nat} {o:Oper} {e:Edge}:l[i]?=some o→e∈o.after→Region.binds .any e=true→e.on=k→JQ l j k→JQ l j i
def kH (f:Nat→Value) (d:Option Nat) (v:Value):Nat→Value:=match d with|some d=>upd f d v|none=>f
def IU (n:Nat) (R:Nat→(Nat→Value)→World→Prop) (f:Nat→Value) (w:World) (o:Oper):Prop:=
 ∀ e∈o.after,Region.binds .any e=true→e.on<n→R e.on f w
def MZ (P:Program) (l:List Oper) (n:Nat) (R:Nat→(Nat→Value)→World→Prop) (Q:Exit→Act→World→Prop) (a:Act) (w:World) (i:Nat) (o:Oper):Prop:=
 ∀ f w',Below w.heap.size w w'→IU n R f w' o→o.wp P (fU a (l.take n) f) w' (fun a' w''=>∃ v,a'=(fU a (l.take n) f).put o.dst v∧R i (kH f o.dst v) w''∧Below w'.heap.size w' w'') Q
def CU (P:Program) (l:List Oper) (n:Nat) (R:Nat→(Nat→Value)→World→Prop) (Q:Exit→Act→World→Prop) (a:Act) (w:World):Nat→List Oper→Prop
 |_,[]=>True
 |i,o::r=>MZ P l n R Q a w i o∧CU P l n R Q a w (i+1) r
theorem CU.at {P:Program} {l:List Oper} {n:Nat} {R:Nat→(Nat→Value)→World→Prop} {Q:Exit→Act→World→Prop} {a:Act} {w:World}:∀ {r:List Oper} {k:Nat},CU P l n R Q a w k r→∀ {j:Nat} {o:Oper},r[j]?=some o→MZ P l n R Q a w (k+j) o
 |[],_,_,_,_,h=>by simp at h
 |x::r,k,h,0,o,hj=>by
  simp at hj
  subst hj;exact h.1
 |x::r,k,h,j+1,o,hj=>by
  have:=CU.at h.2 (j:=j) (o:=o) (by simpa using hj)
  rwa [show k+1+j=k+(j+1) by omega] at this
def heads (m n:Nat):Array Bool:=Array.replicate n true++Array.replicate (m - n) false
def Et (l:List Oper) (n:Nat):Bool:=
 (decide (n=l.length)||(decide (n<l.length)&&Region.sinkB .any l.toArray n&&Region.chainB .any l.toArray n))&&Region.seqB .any l.toArray (l.length - n) n (heads l.length n)&&
 (l.take n).all (fun o=>o.guard.isNone)&&decide ((l.take n).filterMap (·.dst)).Nodup&&(List.range n).all fun i=>((l[i]?).map fun o=>o.after.all fun e=>!Region.binds .any e||decide (e.on<i)).getD true
def Qi (listed:Array Bool) (n:Nat):Nat:=(List.range n).countP fun i=>!listed.getD i true
theorem yJ {listed:Array Bool} {i:Nat} (d:Bool) (hs:i<listed.size):(listed.setIfInBounds i true).getD i d=true:=by simp [Array.getD,hs]
theorem Je {listed:Array Bool} {i:Nat} (hi:listed.getD i true=false):i<listed.size:=by
 rcases Ed i listed.size with h|h
 ·exact h
 ·simp [qh h] at hi
theorem VA {listed:Array Bool} {i:Nat} (hi:listed.getD i true=false):∀ n,Qi (listed.setIfInBounds i true) n+(if i<n then 1 else 0)=Qi listed n:=by
 have hs:=Je hi;intro n;induction n with
 |zero=>simp [Qi]
 |succ n ih=>
  unfold Qi at ih ⊢
  rw [wL,GK,GK];by_cases h:i=n
  ·subst h;rw [ah (by omega)] at ih
   rw [ak (by omega)]
   simp only [XP,hi,yJ true hs,GR,En,og,wJ,yN];omega
  ·have e:(List.countP (fun j=>!(listed.setIfInBounds i true).getD j true) [n])=List.countP (fun j=>!listed.getD j true) [n]:=by
    simp only [XP,wK true h]
   rw [e];by_cases hlt:i<n
   ·rw [ak hlt] at ih
    rw [ak (by omega)]
    omega
   ·rw [ah hlt] at ih
    rw [ah (by omega)]
    omega
theorem BM {listed:Array Bool} {n:Nat} (h:Qi listed n=0) {i:Nat} (hi:i<n):listed.getD i true=true:=by
 unfold Qi at h
 rw [List.countP_eq_zero] at h
 have:=h i (lu.2 hi);simpa using this
theorem VB {listed:Array Bool} {n:Nat} (h:0<Qi listed n):∃ i,i<n∧listed.getD i true=false:=by
 unfold Qi at h
 rw [List.countP_pos_iff] at h
 obtain ⟨i,hi,hp⟩:=h;exact ⟨i,lu.1 hi,by simpa using hp⟩
section
variable {P:Program} {l:List Oper} {n:Nat} {R:Nat→(Nat→Value)→World→Prop} {Q:Exit→Act→World→Prop} {a:Act} {w:World}
theorem Ag {i d:Nat} {o:Oper} (hi:l[i]?=some o) (hin:i<n) (hd:o.dst=some d):d∈(l.take n).filterMap (·.dst):=by
 rw [List.mem_filterMap];refine ⟨o,?_,hd⟩
 rw [Le];exact ⟨i,by rw [nI];simp [hin,hi]⟩
theorem jbZ {i j d d':Nat} {o o':Oper} (hn:((l.take n).filterMap (·.dst)).Nodup) (hi:l[i]?=some o) (hin:i<n) (hd:o.dst=some d) (hj:l[j]?=some o') (hjn:j<n) (hd':o'.dst=some d') (hne:i≠j):d≠d':=by
 intro e;subst e;have key:∀ (l:List Oper),(l.filterMap (·.dst)).Nodup→∀ (i j:Nat) (o o':Oper),l[i]?=some o→l[j]?=some o'→o.dst=some d→o'.dst=some d→i<j→False:=by
  intro l;induction l with
  |nil=>intro _ i j o o' h;simp at h
  |cons x l ih=>
   intro hn i j o o' hi hj hd hd' hlt;have hnl:(l.filterMap (·.dst)).Nodup:=by
    cases hx:x.dst with
    |none=>rw [List.filterMap_cons_none hx] at hn;exact hn
    |some y=>rw [XL hx] at hn;exact (Gu.1 hn).2
   cases i with
   |zero=>
    simp at hi
    subst hi;rw [XL hd] at hn
    obtain ⟨j,rfl⟩:∃ k,j=k+1:=⟨j - 1,by omega⟩
    refine (Gu.1 hn).1 ?_
    rw [List.mem_filterMap];exact ⟨o',Ld (by simpa using hj),hd'⟩
   |succ i=>
    obtain ⟨j,rfl⟩:∃ k,j=k+1:=⟨j - 1,by omega⟩
    exact ih hnl i j o o' (by simpa using hi) (by simpa using hj) hd hd' (by omega)
 have hi':(l.take n)[i]?=some o:=by rw [nI];simp [hin,hi]
 have hj':(l.take n)[j]?=some o':=by rw [nI];simp [hjn,hj]
 rcases Nat.lt_or_gt_of_ne hne with h|h
 ·exact key _ hn i j o o' hi' hj' hd hd' h
 ·exact key _ hn j i o' o hj' hi' hd' hd h
theorem jcn (hle:n≤l.length) (Oa:∀ listed,HeadInv .any l.toArray n listed→∀ i,i<n→listed.getD i true=false→∀ t,n≤t→t ∉ Region.ready .any l.toArray listed) (hseq:Region.seqB .any l.toArray (l.length - n) n (heads l.length n)=true)
  (hg:∀ i o,i<n→l[i]?=some o→o.guard=none) (hnd:((l.take n).filterMap (·.dst)).Nodup) (hback:∀ i o,i<n→l[i]?=some o→∀ e∈o.after,Region.binds .any e=true→e.on<i)
  (hst:∀ i g w1 w2,R i g w1→Below w1.heap.size w1 w2→R i g w2) (hsup:∀ i g g' w,(∀ j o d,JQ l j i→l[j]?=some o→o.dst=some d→g d=g' d)→R i g w→R i g' w) (hsteps:CU P l n R Q a w 0 (l.take n))
  (hend:∀ f w',Below w.heap.size w w'→(∀ i,i<n→R i f w')→wpList P l.toArray Q (l.drop n) (fU a (l.take n) f) w'):
  ∀ (k:Nat) (listed:Array Bool) (f:Nat→Value) (w':World),HeadInv .any l.toArray n listed→Qi listed n=k→Below w.heap.size w w'→(∀ i,i<n→listed.getD i false=true→R i f w')→
   wpAny P .any l.toArray Q (k+(l.length - n)) listed (fU a (l.take n) f) w'
 |0,listed,f,w',inv,hk,hb,hR=>by
  have hsz:listed.size=l.length:=by rw [inv.size];simp
  have he:listed=heads l.length n:=by
   apply Eo;intro i;unfold heads;rw [Qb]
   simp only [Qa];by_cases hi:i<n
   ·rw [ak hi];have h1:=BM hk hi;have h2:i<listed.size:=by omega
    simp [hi,h2,Array.getD] at h1 ⊢
    exact h1
   ·rw [ah hi];by_cases hl:i<l.length
    ·have h1:=inv.tail i (by omega) (by simpa using hl)
     have h2:i<listed.size:=by omega
     have h3:i - n<l.length - n:=by omega
     simp [h2,h3,Array.getD] at h1 ⊢
     exact h1
    ·rw [qh (by omega),qh (by simp;omega)]
  have hd:l.length - n=(l.drop n).length:=by simp
  rw [iV,hd];refine wpAny_of_seq (l.drop n) n listed _ w' (fun j=>by simp [rP]) (by rw [he,← hd];exact hseq) (hend f w' hb fun i hin=>hR i hin ?_)
  have h1:=BM hk hin;have h2:i<listed.size:=by omega
  simp [h2,Array.getD] at h1 ⊢
  exact h1
 |k+1,listed,f,w',inv,hk,hb,hR=>by
  have hsz:listed.size=l.length:=by rw [inv.size];simp
  obtain ⟨i0,hi0,hu0⟩:=VB (show 0<Qi listed n by omega)
  have hne:∀ i,i<n→listed.getD i true=false→Region.ready .any l.toArray listed≠[]:=by
   intro i;induction i using Nat.strongRecOn with
   |_ i ih=>
    intro hin hu;have hil:i<l.length:=by omega
    by_cases hall:∀ e∈(l[i]).after,Region.binds .any e=true→listed.getD e.on false=true
    ·have:i∈Region.ready .any l.toArray listed:=wI.2 ⟨hu,l[i],by simp [hil],hall⟩
     intro h0;rw [h0] at this
     cases this
    ·simp only [PZ] at hall
     obtain ⟨e,he,hbd,hno⟩:=hall;have hlt:=hback i l[i] hin (by simp [hil]) e he hbd
     exact ih e.on hlt (by omega) (getD_in (by omega) (by simpa using hno))
  rw [show k+1+(l.length - n)=(k+(l.length - n))+1 by omega]
  refine ⟨fun h0=>absurd h0 (hne i0 hi0 hu0),fun i hi=>?_⟩
  have hin:i<n:=by
   rcases Ed i n with h|h
   ·exact h
   ·exact absurd hi (Oa listed inv i0 hi0 hu0 i h)
  obtain ⟨hu,o,ho,hall⟩:=wI.1 hi;have ho':l[i]?=some o:=by simpa using ho
  have hgd:=hg i o hin ho';have hstep:=hsteps.at (j:=i) (o:=o) (by rw [nI];simp [hin,ho'])
  rw [iV] at hstep
  have h1:=hstep f w' hb fun e he hbd hen=>hR e.on hen (hall e he hbd)
  unfold wpOp;simp only [ho];rw [ak (by simp [Region.wanted,hgd])]
  refine .inl (AX ?_ h1)
  rintro a' w'' ⟨v,rfl,hv,hbw⟩;have hcount:Qi (listed.setIfInBounds i true) n=k:=by
   have:=VA hu n;rw [ak hin] at this
   omega
  have hb2:=hb.trans (hbw.mono hb.size);have MJ:∀ j k,JQ l j k→k<n→listed.getD k false=true→j<n∧listed.getD j false=true:=by
   intro j k h;induction h with
   |self=>exact fun h1 h2=>⟨h1,h2⟩
   |back ho he hbd hon _ ih=>
    intro h1 h2;subst hon;have:=hback _ _ h1 ho _ he hbd;exact ih (by omega) (inv.closed _ _ (by simpa using ho) h2 _ he hbd)
  have hfin:(fU a (l.take n) f).put o.dst v=fU a (l.take n) (kH f o.dst v):=by
   cases hdst:o.dst with
   |none=>rfl
   |some d0=>
    unfold fU Act.put kH;simp only;rw [NH (Ag ho' hin hdst)]
  rw [hfin];refine jcn hle Oa hseq hg hnd hback hst hsup hsteps hend k _ (kH f o.dst v) w'' (inv.set hi hin) hcount hb2 fun j hjn hl=>?_
  by_cases hij:i=j
  ·subst hij;exact hv
  ·rw [wK false hij] at hl
   refine hsup j f _ _ (fun j' oj d haj hoj hd=>?_) (hst _ _ _ _ (hR j hjn hl) hbw)
   obtain ⟨jf4,Zd⟩:=MJ _ _ haj hjn hl;cases hdst:o.dst with
   |none=>rfl
   |some d0=>
    have hne:i≠j':=fun e=>by
     subst e;rw [getD_both hu] at Zd
     cases Zd
    have hdd:=jbZ hnd ho' hin hdst hoj jf4 hd hne;unfold kH upd;simp only;rw [ah (fun e=>hdd e.symm)]
theorem ji3 (n:Nat) (R:Nat→(Nat→Value)→World→Prop) (hB:Et l n=true) (hst:∀ i g w1 w2,R i g w1→Below w1.heap.size w1 w2→R i g w2)
  (hsup:∀ i g g' w,(∀ j o d,JQ l j i→l[j]?=some o→o.dst=some d→g d=g' d)→R i g w→R i g' w) (hsteps:CU P l n R Q a w 0 (l.take n))
  (hend:∀ f w',Below w.heap.size w w'→(∀ i,i<n→R i f w')→wpList P l.toArray Q (l.drop n) (fU a (l.take n) f) w'):wpAny P .any l.toArray Q l.toArray.size (Array.replicate l.toArray.size false) a w.drew:=by
 simp only [Et,dL,mO,dR,bY] at hB
 obtain ⟨⟨⟨⟨hw,hseq⟩,hg⟩,hnd⟩,hback⟩:=hB;have hle:n≤l.length:=by rcases hw with h|h<;>omega
 have hat:∀ i o,i<n→l[i]?=some o→o∈l.take n:=fun i o hin hi=>by
  rw [Le];exact ⟨i,by rw [nI];simp [hin,hi]⟩
 have H:=jcn (P:=P) (Q:=Q) (a:=a) (w:=w) hle ?_ hseq (fun i o hin hi=>by simpa using hg o (hat i o hin hi)) hnd ?_ hst hsup hsteps hend n (Array.replicate l.toArray.size false) (fun d=>a.tmps.getD d undef) w.drew
  ⟨by simp,fun j oj _ hl=>(by rw [getD_replicate_false] at hl;cases hl),fun t _ ht=>getD_in (by simpa using ht) (getD_replicate_false _ _)⟩ ?_ (aj _ _).drew (fun i _ hl=>by rw [getD_replicate_false] at hl;cases hl)
 ·have e:fU a (l.take n) (fun d=>a.tmps.getD d undef)=a:=by
   unfold fU;rw [KF]
  rw [e] at H
  have hs:n+(l.length - n)=l.toArray.size:=by simp;omega
  rw [hs] at H
  exact H
 ·intro listed inv i hin hu t ht hr;rcases hw with h|⟨⟨h1,h2⟩,h3⟩
  ·obtain ⟨_,o,ho,_⟩:=wI.1 hr;have:=(gX.1 ho).1
   simp at this
   omega
  ·exact tail_waits h2 h3 (by simpa using h1) inv (n - i) i rfl hin hu t ht hr
 ·intro i o hin hi e he hbd;have:=hback i (lu.2 hin);rw [hi] at this
  simp only [pq,uD,Ep,mO,yY,dR] at this
  rcases this e he with h|h
  ·rw [h] at hbd;cases hbd
  ·exact h
 ·have key:∀ m,m≤l.length→Qi (Array.replicate l.toArray.size false) m=m:=by
   intro m;induction m with
   |zero=>intro _;rfl
   |succ m ih=>
    intro hm;have:=ih (by omega)
    unfold Qi at this ⊢
    have hml:m<l.length:=by omega
    rw [wL,GK,this];simp [hml]
  exact key n hle
def Xt (g:Nat→Value):Operand→Value
 | .tmp t=>g t
 | .const v=>v
 | .global b=>.pointer (some ⟨b,0,none⟩)
 | .func f=>.func (.func f) #[] #[]
theorem RV (a:Act):a.eval=Xt (fun d=>a.tmps.getD d undef):=by
 funext x
 cases x<;>rfl
def dO (P:Program) (o:Oper) (ev:Operand→Value) (w:World) (K:Value→World→Prop):Prop:=
 match (execOp ev o).run P w with
 | .ok (.value v) w'=>K v w'
 | .ok .skip w'=>K undef w'
 | .ok (.enter f args) w'=>Calls P f args w' fun e w''=>∃ v,e=.returned v∧K v w''
 |_=>False
theorem dO.wp {P:Program} {o:Oper} {a:Act} {w:World} {K:Value→World→Prop} {Q:Exit→Act→World→Prop} (h:dO P o a.eval w K):o.wp P a w (fun a' w'=>∃ v,a'=a.put o.dst v∧K v w') Q:=by
 unfold dO at h
 unfold Oper.wp;generalize (execOp a.eval o).run P w=r at*
 cases r with
 |ok n w'=>
  cases n<;>simp only [Oper.upon] at h ⊢
  case value v=>exact ⟨v,rfl,h⟩
  case skip=>exact ⟨undef,rfl,h⟩
  case enter f args=>
   refine h.mono ?_
   rintro e w'' ⟨v,rfl,hk⟩;exact ⟨v,rfl,hk⟩
  all_goals exact h.elim
 |halt x w'=>exact (h:False).elim
theorem MZ.of {i:Nat} {o:Oper} (_hin:l[i]?=some o) (hi:i<n) (hB:Et l n=true) (hsz:((l.take n).filterMap (·.dst)).all (fun d=>decide (d<a.tmps.size))=true)
  (hsup:∀ i g g' w,(∀ j o d,JQ l j i→l[j]?=some o→o.dst=some d→g d=g' d)→R i g w→R i g' w)
  (h:∀ (g:Nat→Value) w',Below w.heap.size w w'→(∀ d,((l.take n).filterMap (·.dst)).contains d=false→g d=a.tmps.getD d undef)→IU n R g w' o→dO P o (Xt g) w' fun v w''=>R i (kH g o.dst v) w''∧Below w'.heap.size w' w''):
  MZ P l n R Q a w i o:=by
 simp only [Et,dL,mO,dR,bY] at hB
 obtain ⟨_,hback⟩:=hB;have Ru:∀ k oe,k<n→l[k]?=some oe→∀ e∈oe.after,Region.binds .any e=true→e.on<k:=fun k oe hk hoe e he hbd=>by
  have:=hback k (lu.2 hk);rw [hoe] at this
  simp only [pq,uD,Ep,mO,yY,dR] at this
  rcases this e he with h|h
  ·rw [h] at hbd;cases hbd
  ·exact h
 have MJ:∀ j k,JQ l j k→k<n→j<n:=by
  intro j k h;induction h with
  |self=>exact id
  |back ho he hbd hon _ ih=>
   intro h1;subst hon;have:=Ru _ _ h1 ho _ he hbd;exact ih (by omega)
 have hsz':∀ d∈(l.take n).filterMap (·.dst),d<a.tmps.size:=fun d hd=>by
  have:=bY.1 hsz d hd;simpa using this
 intro f w' hb hd;have hg:∀ d∈(l.take n).filterMap (·.dst),(fU a (l.take n) f).tmps.getD d undef=f d:=fun d hd=>by
  have h1:=tY ((l.take n).filterMap (·.dst)) f a.tmps d
  rw [ak (hsz' d hd),ak hd] at h1
  unfold fU;simp only [Bz,h1,uD]
 have ho:∀ d,((l.take n).filterMap (·.dst)).contains d=false→(fU a (l.take n) f).tmps.getD d undef=a.tmps.getD d undef:=fun d hd=>by
  have h1:=tY ((l.take n).filterMap (·.dst)) f a.tmps d
  have h2:d ∉ (l.take n).filterMap (·.dst):=by simpa using hd
  rw [ah h2] at h1
  unfold fU;simp only [Bz,h1];by_cases hl:d<a.tmps.size
  ·rw [ak hl]
  ·rw [ah hl,qh (Gq hl)]
 have key:=h (fun d=>(fU a (l.take n) f).tmps.getD d undef) w' hb ho (fun e he hbd hen=>hsup e.on f _ _ (fun j oj d haj hoj hdj=>(hg d (Ag hoj (MJ _ _ haj hen) hdj)).symm) (hd e he hbd hen))
 rw [← RV] at key
 refine AX ?_ key.wp
 rintro a' w'' ⟨v,rfl,hr,hbw⟩;refine ⟨v,rfl,hsup i _ _ _ (fun j oj d haj hoj hdj=>?_) hr,hbw⟩
 have hjn:=MJ _ _ haj hi;have hmem:=Ag hoj hjn hdj;cases hdst:o.dst with
 |none=>exact hg d hmem
 |some d0=>
  unfold kH upd;simp only;split
  ·rfl
  ·exact hg d hmem
abbrev oL:=(Nat→Value)→World→Prop
def atR (Rs:List oL) (i:Nat):oL:=Rs.getD i (fun _ _=>True)
def SY:List oL→(Nat→Value)→World→Prop
 |[],_,_=>True
 |p::r,g,w=>p g w∧SY r g w
def dU (P:Program) (l:List Oper) (n:Nat) (Rs:List oL) (a:Act) (w:World) (i:Nat) (o:Oper) (p:oL):Prop:=
 (∀ g w1 w2,p g w1→Below w1.heap.size w1 w2→p g w2)∧(∀ g g' w,(∀ j o d,JQ l j i→l[j]?=some o→o.dst=some d→g d=g' d)→p g w→p g' w)∧
 ∀ g w',Below w.heap.size w w'→(∀ d,((l.take n).filterMap (·.dst)).contains d=false→g d=a.tmps.getD d undef)→IU n (atR Rs) g w' o→dO P o (Xt g) w' fun v w''=>p (kH g o.dst v) w''∧Below w'.heap.size w' w''
def bg (P:Program) (l:List Oper) (n:Nat) (Rs:List oL) (a:Act) (w:World):Nat→List Oper→List oL→Prop
 |_,[],_=>True
 |_,_::_,[]=>False
 |i,o::r,p::ps=>dU P l n Rs a w i o p∧bg P l n Rs a w (i+1) r ps
theorem bg.at {Rs:List oL}:∀ {r:List Oper} {ps:List oL} {k:Nat},bg P l n Rs a w k r ps→∀ {j:Nat} {o:Oper},r[j]?=some o→dU P l n Rs a w (k+j) o (ps.getD j (fun _ _=>True))
 |[],_,_,_,_,_,h=>by simp at h
 |_::_,[],_,h,_,_,_=>h.elim
 |x::r,p::ps,k,h,0,o,hj=>by
  simp at hj
  subst hj;exact h.1
 |x::r,p::ps,k,h,j+1,o,hj=>by
  have:=bg.at h.2 (j:=j) (o:=o) (by simpa using hj)
  rw [show k+1+j=k+(j+1) by omega] at this
  simpa using this
theorem SY.of {Rs:List oL} {g:Nat→Value} {w:World} (h:∀ i,i<Rs.length→atR Rs i g w):SY Rs g w:=by
 induction Rs with
 |nil=>bP
 |cons p r ih=>exact ⟨h 0 (by simp),ih fun i hi=>h (i+1) (by simp;omega)⟩
theorem jc3 (n:Nat) (Rs:List oL) (hB:Et l n=true) (hn:Rs.length=n) (hsz:((l.take n).filterMap (·.dst)).all (fun d=>decide (d<a.tmps.size))=true)
  (hops:bg P l n Rs a w 0 (l.take n) Rs) (hend:∀ f w',Below w.heap.size w w'→SY Rs f w'→wpList P l.toArray Q (l.drop n) (fU a (l.take n) f) w'):wpAny P .any l.toArray Q l.toArray.size (Array.replicate l.toArray.size false) a w.drew:=by
 have hle:n≤l.length:=by
  have:=hB;simp only [Et,dL,mO,dR] at this
  rcases this.1.1.1.1 with h|h<;>omega
 have hat:∀ i,i<n→∃ o,l[i]?=some o∧dU P l n Rs a w i o (atR Rs i):=fun i hi=>by
  have hil:i<l.length:=by omega
  refine ⟨l[i],by simp [hil],?_⟩
  have:=hops.at (j:=i) (o:=l[i]) (by rw [nI];simp [hi,hil])
  rwa [iV] at this
 have hst:∀ i g w1 w2,atR Rs i g w1→Below w1.heap.size w1 w2→atR Rs i g w2:=fun i g w1 w2 h hb=>by
  by_cases hi:i<n
  ·obtain ⟨o,_,h1,_⟩:=hat i hi;exact h1 g w1 w2 h hb
  ·unfold atR;rw [jm,Ei (by omega)]
   bP
 have hsup:∀ i g g' w,(∀ j o d,JQ l j i→l[j]?=some o→o.dst=some d→g d=g' d)→atR Rs i g w→atR Rs i g' w:=fun i g g' w1 he h=>by
  by_cases hi:i<n
  ·obtain ⟨o,_,_,h2,_⟩:=hat i hi;exact h2 g g' w1 he h
  ·unfold atR;rw [jm,Ei (by omega)]
   bP
 refine ji3 n (atR Rs) hB hst hsup ?_ (fun f w' hb hR=>hend f w' hb (SY.of fun i hi=>hR i (by omega)))
 have key:∀ (r:List Oper) (k:Nat),(∀ j o,r[j]?=some o→k+j<n∧l[k+j]?=some o)→CU P l n (atR Rs) Q a w k r:=by
  intro r;induction r with
  |nil=>intro _ _;bP
  |cons x r ih=>
   intro k h;obtain ⟨hk,hx⟩:=h 0 x (by simp)
   rw [lZ] at hk hx
   obtain ⟨o,ho,_,_,h3⟩:=hat k hk;rw [hx] at ho
   injection ho with ho
   subst ho;exact ⟨MZ.of hx hk hB hsz hsup h3,ih (k+1) fun j o hj=>by
    have:=h (j+1) o (by simpa using hj)
    rwa [show k+(j+1)=k+1+j by omega] at this⟩
 exact key _ 0 fun j o hj=>by
  rw [nI] at hj
  by_cases h:j<n
  ·rw [ak h] at hj
   exact ⟨by omega,by simpa using hj⟩
  ·rw [ah h] at hj
   cases hj
theorem lT (n:Nat) (Rs:List oL) {id:Nat} (hm:P.follows .mixedOrders=true) (hB:Et l n=true) (hn:Rs.length=n) (hsz:((l.take n).filterMap (·.dst)).all (fun d=>decide (d<a.tmps.size))=true)
  (hops:bg P l n Rs a w 0 (l.take n) Rs) (hend:∀ f w',Below w.heap.size w w'→SY Rs f w'→wpList P l.toArray Q (l.drop n) (fU a (l.take n) f) w'):(Code.region id l.toArray true).wp P Q a w:=
 Pj hm (jc3 n Rs hB hn hsz hops hend)
theorem bg.nil {Rs:List oL} {i:Nat} {ps:List oL}:bg P l n Rs a w i [] ps:=by cases ps<;>bP
theorem bg.cons {Rs:List oL} {i:Nat} {o:Oper} {r:List Oper} {p:oL} {ps:List oL} (h:dU P l n Rs a w i o p) (h':bg P l n Rs a w (i+1) r ps):bg P l n Rs a w i (o::r) (p::ps):=⟨h,h'⟩
theorem dU.val {Rs:List oL} {i d:Nat} {o:Oper} {c:Value} (hi:l[i]?=some o) (ho:o.dst=some d)
  (h:∀ g w',Below w.heap.size w w'→(∀ d,((l.take n).filterMap (·.dst)).contains d=false→g d=a.tmps.getD d undef)→IU n (atR Rs) g w' o→(execOp (Xt g) o).run P w'=.ok (.value c) w'):
  dU P l n Rs a w i o (fun g _=>g d=c):=by
 refine ⟨fun _ _ _ h _=>h,fun g g' _ he h=>(he i o d (JQ.self i) hi ho).symm.trans h,fun g w' hb hout hd=>?_⟩
 unfold dO;rw [h g w' hb hout hd];refine ⟨?_,aj _ _⟩
 rw [ho];unfold kH upd;simp
theorem dU.one {Rs:List oL} {i d:Nat} {o:Oper} {p:Value→World→Prop} (hi:l[i]?=some o) (ho:o.dst=some d) (hst:∀ v w1 w2,p v w1→Below w1.heap.size w1 w2→p v w2)
  (h:∀ g w',Below w.heap.size w w'→(∀ d,((l.take n).filterMap (·.dst)).contains d=false→g d=a.tmps.getD d undef)→IU n (atR Rs) g w' o→dO P o (Xt g) w' fun v w''=>p v w''∧Below w'.heap.size w' w''):
  dU P l n Rs a w i o (fun g w=>p (g d) w):=by
 refine ⟨fun g w1 w2 h hb=>hst _ _ _ h hb,fun g g' w1 he h=>?_,fun g w' hb hout hd=>?_⟩
 ·show p (g' d) w1;rw [← he i o d (JQ.self i) hi ho];exact h
 ·have:=h g w' hb hout hd;rw [ho];have e:∀ v,kH g (some d) v d=v:=fun v=>by unfold kH upd;simp
  simpa only [e] using this
theorem dQ (g:Nat→Value) (t:Nat):Xt g (.tmp t)=g t:=rfl
theorem dI (g:Nat→Value) (v:Value):Xt g (.const v)=v:=rfl
theorem dX (g:Nat→Value) (f:FuncId):Xt g (.func f)=.func (.func f) #[] #[]:=rfl
end
end Wh
namespace Wh
open Go Go.RowKit Go.Proofs Tryz
def dN (w:World) (b:Nat) (V:SV):Prop:=w.heap[b]?=some (.cells V.cells.toArray 31 (0,0))
theorem dN.lt {w:World} {b:Nat} {V:SV} (h:dN w b V):b<w.heap.size:=(gX.1 h).1
theorem dN.blk {w:World} {b:Nat} {V:SV} (h:dN w b V):dw w b 31 V.cells:=h
theorem dN.below {w w':World} {b B:Nat} {V:SV} (h:dN w b V) (hb:Below B w w') (hB:b<B):dN w' b V:=(hb.block b hB).trans h
theorem dN.grown {w w':World} {b:Nat} {V:SV} {row:Option Nat} (h:dN w b V) (hg:w.grownBy w' row) (hne:some b≠row):dN w' b V:=(hg.block b h.lt hne).trans h
theorem dN.cells {w:World} {b:Nat} {V:SV} (h:dN w b V):w.cell? ⟨b,0,none⟩=some V.on∧w.cell? ⟨b,1,none⟩=some V.orders∧w.cell? ⟨b,2,none⟩=some V.holds∧w.cell? ⟨b,3,none⟩=some V.moves∧
  w.cell? ⟨b,4,none⟩=some V.inn∧w.cell? ⟨b,5,none⟩=some V.out∧w.cell? ⟨b,6,none⟩=some V.fixed:=
 ⟨h.blk.cell rfl,h.blk.cell rfl,h.blk.cell rfl,h.blk.cell rfl,h.blk.cell rfl,h.blk.cell rfl,h.blk.cell rfl⟩
theorem dN.frozen {w:World} {b:Nat} {V:SV} (h:dN w b V) (o:Nat):w.frozen? ⟨b,o,none⟩=false:=h.blk.frozen o
theorem pF {w:World} {g:Nat} {e:TypeId} {cur:List Value} (h:dw w g e cur) (j:Nat) (u:Value):dw (w.setCell ⟨g,j,none⟩ u) g e (cur.set j u)∧w.grownBy (w.setCell ⟨g,j,none⟩ u) (some g):=by
 unfold dw at h
 have hl:=(gX.1 h).1
 constructor
 ·unfold dw World.setCell;simp [XV,h]
 ·refine ⟨rfl,rfl,rfl,by simp [World.setCell],fun k hk hne=>?_⟩
  unfold World.setCell;simp only;rw [XV]
  rw [ah (fun e=>hne (by rw [e]))]
theorem dN.Yf {w:World} {b:Nat} {V:SV} (h:dN w b V) (u:Value):dN (w.setCell ⟨b,0,none⟩ u) b {V with on:=u}:=(pF h.blk 0 u).1
theorem dN.Uu {w:World} {b:Nat} {V:SV} (h:dN w b V) (u:Value):dN (w.setCell ⟨b,1,none⟩ u) b {V with orders:=u}:=(pF h.blk 1 u).1
theorem JR {ops:Array Oper} {rest:List Oper} {o:Oper} {a:Act} {w:World} {Q:Exit→Act→World→Prop} (hgd:o.guard=none) (x y:Operand) (ho:o.op=.store 31 x y) (hn:o.dst=none) (b:Nat) (V V':SV)
  (hbox:dN w b V) (hx:a.eval x=.pointer (some ⟨b,0,none⟩)) (hy:a.eval y=V'.val) (h1:V'.cells.all (fun u=>u.oneCell')=true)
  (h:∀ w',dN w' b V'→w.grownBy w' (some b)→wpList prog ops Q rest a w'):wpList prog ops Q (o::rest) a w:=
 lV hgd fun K hK=>by
  refine wp_store_row (P:=prog) 31 x y ho b V'.cells.toArray hx hy 31 V.cells.toArray hbox (by kernel_rfl) rfl (by simpa using h1) ?_
  rw [hn];exact hK _ _ (h _ (hbox.blk.row V'.cells) (rE w b V'.cells.toArray))
theorem Own.iD {α:Type} {enc:α→List Value} {size:Nat} {e:TypeId} {w:World} {base:Nat} {v:Value} {l:List α} (h:Own enc size e w base v l) {b:Nat} {t:TypeId} {cur:List Value} (hb:dw w b t cur) (hne:e≠t):
  v.ownBlock=none∨v.ownBlock≠some b:=by
 cases hv:v.ownBlock with
 |none=>exact .inl rfl
 |some g=>
  refine .inr fun he=>?_
  injection he with he
  subst he;obtain ⟨c1,h1⟩:=h.block hv;unfold dw at hb
  rw [h1] at hb
  injection hb with h2
  injection h2 with _ h3
  exact hne h3
namespace aO
variable {w w':World} {base:Nat} {V:SV} {s:State}
theorem keptBy (h:aO w base V s) {b:Nat} {t:TypeId} {cur:List Value} (hg:w.grownBy w' (some b)) (hb:dw w b t cur) (h1:23≠t) (h2:3≠t) (h3:42≠t) (h4:44≠t) (h5:46≠t) (h6:48≠t):aO w' base V s:=
 ⟨h.on.kept hg (h.on.iD hb h1),h.rlen,fun b hlt=>(h.row b hlt).kept hg ((h.row b hlt).iD hb h2),h.orders.kept hg (h.orders.iD hb h3),h.llen,fun o ho=>(h.line o ho).kept hg ((h.line o ho).iD hb h4),
  h.holds.kept hg (h.holds.iD hb h5),h.moves.kept hg (h.moves.iD hb h6),h.inn.kept hg (h.inn.iD hb h2),h.out.kept hg (h.out.iD hb h2),h.fixed.kept hg (h.fixed.iD hb h2),h.apart,h.oQ⟩
theorem box (h:aO w base V s) {b:Nat} {V':SV} (hb:dN w b V') (j:Nat) (u:Value):aO (w.setCell ⟨b,j,none⟩ u) base V s:=
 h.keptBy (pF hb.blk j u).2 hb.blk (by decide) (by decide) (by decide) (by decide) (by decide) (by decide)
theorem UE {l:List Order} {vs:List Value} (h:vs.length=l.length) (x:Order) (u:Value):pU (l++[x]) (vs++[u])=pU l vs++[(x.kind,u)]:=by
 unfold pU;rw [List.zipWith_append h.symm];rfl
theorem Ew {w1 w2:World} (h:aO w base V s) (hb:Below w.heap.size w w1) {u:Value} {x:Order} (hu:Own eP 4 44 w1 base u x.lines) (hf:∀ g,u.ownBlock=some g→w.heap.size≤g) (hg:w1.grownBy w2 V.orders.ownBlock)
  {v':Value} (hv:Own Gh 2 42 w2 base v' (pU s.orders V.lines++[(x.kind,u)])):aO w2 base {V with orders:=v',lines:=V.lines++[u]} {s with orders:=s.orders++[x]}:=by
 have k:=h.below hb;refine ⟨k.on.kept hg (k.on.apart k.orders (by decide)),k.rlen,fun b hlt=>(k.row b hlt).kept hg ((k.row b hlt).apart k.orders (by decide)),?_,by simp [h.llen],fun o ho=>?_,
  k.holds.kept hg (k.holds.apart k.orders (by decide)),k.moves.kept hg (k.moves.apart k.orders (by decide)),k.inn.kept hg (k.inn.apart k.orders (by decide)),k.out.kept hg (k.out.apart k.orders (by decide)),k.fixed.kept hg (k.fixed.apart k.orders (by decide)),k.apart,?_⟩
 ·show Own Gh 2 42 w2 base v' (pU (s.orders++[x]) (V.lines++[u]));rw [UE h.llen];exact hv
 ·have ho':o<s.orders.length+1:=by simpa using ho
  by_cases hlt:o<s.orders.length
  ·have e1:SV.line {V with orders:=v',lines:=V.lines++[u]} o=V.line o:=by
    unfold SV.line;simp [jm,nZ (show o<V.lines.length by rw [h.llen];exact hlt)]
   have e2:State.order {s with orders:=s.orders++[x]} o=s.order o:=by
    unfold State.order ay;simp [jm,nZ hlt]
   rw [e1,e2];exact (k.line o hlt).kept hg ((k.line o hlt).apart k.orders (by decide))
  ·have ho2:o=s.orders.length:=by omega
   have e1:SV.line {V with orders:=v',lines:=V.lines++[u]} o=u:=by
    unfold SV.line;rw [ho2,← h.llen];simp
   have e2:State.order {s with orders:=s.orders++[x]} o=x:=by
    unfold State.order ay;rw [ho2];simp
   rw [e1,e2];exact hu.kept hg (hu.apart k.orders (by decide))
 ·show um (V.lines++[u]);unfold um;rw [yQ];refine ⟨h.oQ,La _ _,fun a ha b hb' g hga=>?_⟩
  obtain rfl:=pX.1 hb';intro he;have h1:=hf g he;obtain ⟨i,hi,rfl⟩:=cZ ha;have hil:i<s.orders.length:=by rw [← h.llen];exact hi
  have e1:V.line i=V.lines[i]:=by unfold SV.line;simp [hi]
  have h2:=((h.line i hil).size g (by rw [e1];exact hga)).2
  omega
theorem jaQ {w2:World} (h:aO w base V s) (hg:w.grownBy w2 V.orders.ownBlock) {u:Value} {x:Order} (hu:Own eP 4 44 w2 base u x.lines) (hf:∀ g,u.ownBlock=some g→w.heap.size≤g)
  {v':Value} (hv:Own Gh 2 42 w2 base v' (pU s.orders V.lines++[(x.kind,u)])):aO w2 base {V with orders:=v',lines:=V.lines++[u]} {s with orders:=s.orders++[x]}:=by
 refine ⟨h.on.kept hg (h.on.apart h.orders (by decide)),h.rlen,fun b hlt=>(h.row b hlt).kept hg ((h.row b hlt).apart h.orders (by decide)),?_,by simp [h.llen],fun o ho=>?_,
  h.holds.kept hg (h.holds.apart h.orders (by decide)),h.moves.kept hg (h.moves.apart h.orders (by decide)),h.inn.kept hg (h.inn.apart h.orders (by decide)),h.out.kept hg (h.out.apart h.orders (by decide)),h.fixed.kept hg (h.fixed.apart h.orders (by decide)),h.apart,?_⟩
 ·show Own Gh 2 42 w2 base v' (pU (s.orders++[x]) (V.lines++[u]));rw [UE h.llen];exact hv
 ·have ho':o<s.orders.length+1:=by simpa using ho
  by_cases hlt:o<s.orders.length
  ·have e1:SV.line {V with orders:=v',lines:=V.lines++[u]} o=V.line o:=by
    unfold SV.line;simp [jm,nZ (show o<V.lines.length by rw [h.llen];exact hlt)]
   have e2:State.order {s with orders:=s.orders++[x]} o=s.order o:=by
    unfold State.order ay;simp [jm,nZ hlt]
   rw [e1,e2];exact (h.line o hlt).kept hg ((h.line o hlt).apart h.orders (by decide))
  ·have ho2:o=s.orders.length:=by omega
   have e1:SV.line {V with orders:=v',lines:=V.lines++[u]} o=u:=by
    unfold SV.line;rw [ho2,← h.llen];simp
   have e2:State.order {s with orders:=s.orders++[x]} o=x:=by
    unfold State.order ay;rw [ho2];simp
   rw [e1,e2];exact hu
 ·show um (V.lines++[u]);unfold um;rw [yQ];refine ⟨h.oQ,La _ _,fun a ha b hb' g hga=>?_⟩
  obtain rfl:=pX.1 hb';intro he;have h1:=hf g he;obtain ⟨i,hi,rfl⟩:=cZ ha;have hil:i<s.orders.length:=by rw [← h.llen];exact hi
  have e1:V.line i=V.lines[i]:=by unfold SV.line;simp [hi]
  have h2:=((h.line i hil).size g (by rw [e1];exact hga)).2
  omega
end aO
theorem Du {w1 w2 w3:World} {row:Option Nat} (h:w1.grownBy w2 row) (h':w2.grownBy w3 row):w1.grownBy w3 row:=
 ⟨h'.os.trans h.os,h'.tape.trans h.tape,h'.output.trans h.output,bJ h.size h'.size,fun k hk hne=>(h'.block k (aZ hk h.size) hne).trans (h.block k hk hne)⟩
theorem gZ {w1 w2:World} {row:Option Nat} (h:Below w1.heap.size w1 w2):w1.grownBy w2 row:=⟨h.os,h.tape,h.output,h.size,fun k hk _=>h.block k hk⟩
section
variable {P:Program}
theorem lI {α:Type} {enc:α→List Value} (w:World) (t ty e:TypeId) (z:Value) (size bytes:Nat) (ht:P.underlying t=some (.slice e)) (hi:Elem P e z size bytes) (hzs:z.cells.size=size) (hsz:0<size) (hby:bytes≤64)
  (g:Nat) (hg:dw w g e []) (m:List α) (A:Option Addr) (c B:Nat) (hk:∀ y,(enc y).length=size) (hA:At w B A (m.flatMap enc)) (hn:m.length≤1000000):
  ∃ v' w',(Builtin.append_ #[t,t] ty #[.slice (some ⟨g,0,none⟩) 0 0,.slice A m.length c]).run P w=.ok v' w'∧Below w.heap.size w w'∧Own enc size e w' g v' m∧(0<m.length→Own enc size e w' w.heap.size v' m):=by
 have hi0:=hi;obtain ⟨i,hi,hz,hsize,hbytes⟩:=hi;rcases KY m.length with h0|h0
 ·obtain rfl:m=[]:=GH h0;refine ⟨.slice (some ⟨g,0,none⟩) 0 0,w,?_,aj _ _,Own.Hg hk (aA _) hg (aA _) (aT _) (by simp) (by simp),fun h=>by simp at h⟩
  cases A with
  |none=>simp [Builtin.append_,AO ht,Go.sizeOf,typeInfo,hi,Builtin.lenOf,Builtin.firstCells,storeCells]
  |some ad=>
   have hf:=Gj (P:=P) w i.size 0 ad 0 c [] (by simp) (by simp)
   simp [Builtin.append_,AO ht,Go.sizeOf,typeInfo,hi,Builtin.lenOf,hf,storeCells]
 ·have hp:0<(m.flatMap enc).length:=by rw [flat_length enc size hk];exact Py h0 hsz
  have he:=(hA.ok hp).eq;have hmax:m.length≤maxLen:=by unfold maxLen;omega
  have hcap:Builtin.nextslicecap m.length 0*i.bytes≤281474976710656:=by
   rw [nextslicecap_zero h0,hbytes];exact bJ (Gp hn hby) (by decide)
  have hr:=run_append_grow (P:=P) w t ty e i z ht hi hz ⟨g,0,none⟩ 0 0 [] (by simp) (by simp) ⟨dD A,jy A,none⟩ m.length c (m.flatMap enc) (by rw [flat_length enc size hk,hsize]) (fun j u hj=>by rw [jq];exact hA.cell hj)
   (by omega) (by have:m.length≤1000000:=hn;omega) (by simpa using hcap)
  rw [← he] at hr
  simp only [iV,Array.empty_append] at hr
  have hge:=grownCap_ge w m.length 0 e;have hcm:=grownCap_le_maxLen w m.length 0 e hmax;have hown:Own enc size e (w.drew.alloc (.cells ((m.flatMap enc).toArray++Builtin.zeroCells z.cells (grownCap w m.length 0 e - m.length)) e)) w.heap.size (.slice (some ⟨w.heap.size,0,none⟩) m.length (grownCap w m.length 0 e)) m:=by
   have hb:=dw.new w.drew e ((m.flatMap enc).toArray++Builtin.zeroCells z.cells (grownCap w m.length 0 e - m.length));refine Own.Hg hk (aA _) hb hge hcm ?_ ?_
   ·rw [Bv,Array.size_append,qN,nR,hzs,flat_length enc size hk,← nG];congr 1
    omega
   ·rw [Array.toList_append,← flat_length enc size hk];exact List.take_left
  exact ⟨_,_,hr,((aj _ _).drew.alloc (aA _) _),hown.from_ (nD hg.lt),fun _=>hown⟩
end
def xP (w:World) (B:Nat) (on:List (List Int)) (inn:List Int) (vO vI:Value):Prop:=∃ gs,jk 23 3 w B vO on gs∧Own dY 1 3 w B vI inn∧∀ x∈gs,vI.ownBlock≠some x
def xO (w:World) (B:Nat) (on:List (List Int)) (inn out:List Int) (vO vI vU:Value):Prop:=∃ gs,jk 23 3 w B vO on gs∧(Own dY 1 3 w B vI inn∧∀ x∈gs,vI.ownBlock≠some x)∧
 Own dY 1 3 w B vU out∧(∀ x∈gs,vU.ownBlock≠some x)∧∀ x,vI.ownBlock=some x→vU.ownBlock≠some x
def xI (w:World) (B:Nat) (on:List (List Int)) (inn out fixed:List Int) (vO vI vU vX:Value):Prop:=∃ gs,jk 23 3 w B vO on gs∧(Own dY 1 3 w B vI inn∧∀ x∈gs,vI.ownBlock≠some x)∧
 (Own dY 1 3 w B vU out∧(∀ x∈gs,vU.ownBlock≠some x)∧∀ x,vI.ownBlock=some x→vU.ownBlock≠some x)∧
 Own dY 1 3 w B vX fixed∧(∀ x∈gs,vX.ownBlock≠some x)∧(∀ x,vI.ownBlock=some x→vX.ownBlock≠some x)∧∀ x,vU.ownBlock=some x→vX.ownBlock≠some x
section
variable {w w':World} {B:Nat} {on:List (List Int)} {inn out fixed:List Int} {vO vI vU vX:Value}
theorem xP.below (h:xP w B on inn vO vI) (hb:Below w.heap.size w w'):xP w' B on inn vO vI:=let ⟨gs,h1,h2,h3⟩:=h;⟨gs,h1.below hb,h2.below hb,h3⟩
theorem xO.below (h:xO w B on inn out vO vI vU) (hb:Below w.heap.size w w'):xO w' B on inn out vO vI vU:=let ⟨gs,h1,⟨h2,h3⟩,h4,h5⟩:=h;⟨gs,h1.below hb,⟨h2.below hb,h3⟩,h4.below hb,h5⟩
theorem xI.below (h:xI w B on inn out fixed vO vI vU vX) (hb:Below w.heap.size w w'):xI w' B on inn out fixed vO vI vU vX:=
 let ⟨gs,h1,⟨h2,h3⟩,⟨h4,h5⟩,h6,h7⟩:=h
 ⟨gs,h1.below hb,⟨h2.below hb,h3⟩,⟨h4.below hb,h5⟩,h6.below hb,h7⟩
theorem EJ {v:Value} {l:List Int} (h:Own dY 1 3 w' w.heap.size v l) {x:Nat} (hx:x<w.heap.size):v.ownBlock≠some x:=fun he=>by
 have:=(h.size x he).1;omega
theorem xP.of {gs:List Nat} (h:jk 23 3 w B vO on gs) (hB:B≤w.heap.size) (hb:Below w.heap.size w w') (hv:Own dY 1 3 w' w.heap.size vI inn):xP w' B on inn vO vI:=
 ⟨gs,h.below hb,hv.from_ hB,fun _ hx=>EJ hv (h.mem hx).2⟩
theorem xO.of (h:xP w B on inn vO vI) (hB:B≤w.heap.size) (hb:Below w.heap.size w w') (hv:Own dY 1 3 w' w.heap.size vU out):xO w' B on inn out vO vI vU:=
 let ⟨gs,h1,h2,h3⟩:=h
 ⟨gs,h1.below hb,⟨h2.below hb,h3⟩,hv.from_ hB,fun _ hx=>EJ hv (h1.mem hx).2,fun x hx=>EJ hv (h2.size x hx).2⟩
theorem xI.of (h:xO w B on inn out vO vI vU) (hB:B≤w.heap.size) (hb:Below w.heap.size w w') (hv:Own dY 1 3 w' w.heap.size vX fixed):xI w' B on inn out fixed vO vI vU vX:=
 let ⟨gs,h1,⟨h2,h3⟩,h4,h5,h6⟩:=h
 ⟨gs,h1.below hb,⟨h2.below hb,h3⟩,⟨h4.below hb,h5,h6⟩,hv.from_ hB,fun _ hx=>EJ hv (h1.mem hx).2,fun x hx=>EJ hv (h2.size x hx).2,fun x hx=>EJ hv (h4.size x hx).2⟩
theorem jk.isSlice {E2 E1:TypeId} {gs:List Nat} {v:Value} (h:jk E2 E1 w B v on gs):∃ A c,v=.slice A on.length c:=by
 obtain ⟨vs,h1,h2,_⟩:=h;obtain ⟨A,c,e⟩:=h1.isSlice;exact ⟨A,c,by rw [e,h2]⟩
theorem xP.isSlice (h:xP w B on inn vO vI):∃ A c,vI=.slice A inn.length c:=let ⟨_,_,h2,_⟩:=h;h2.isSlice
theorem xO.isSlice (h:xO w B on inn out vO vI vU):∃ A c,vU=.slice A out.length c:=let ⟨_,_,_,h4,_⟩:=h;h4.isSlice
theorem xI.isSlice (h:xI w B on inn out fixed vO vI vU vX):∃ A c,vX=.slice A fixed.length c:=let ⟨_,_,_,_,h6,_⟩:=h;h6.isSlice
theorem xI.Y2 (h:xI w B on inn out fixed vO vI vU vX):∃ A c,vO=.slice A on.length c:=let ⟨_,h1,_⟩:=h;h1.isSlice
theorem xI.made (h:xI w B on inn out fixed vO vI vU vX) {vH vM:Value} {holds:List Hold} {moves:List Move} (hH:Own bM 4 46 w B vH holds) (hM:Own gV 4 48 w B vM moves):
  ∃ vs,aO w B ⟨vO,gJ,vH,vM,vI,vU,vX,vs,[]⟩ ⟨on,[],holds,moves,inn,out,fixed⟩:=by
 obtain ⟨gs,⟨vs,k1,k2,k3,k4,k5⟩,⟨h2,h3⟩,⟨h4,h5,h6⟩,h7,h8,h9,h10⟩:=h;have hrow:∀ b,b<on.length→∃ g c,vs.getD b gJ=.slice (some ⟨g,0,none⟩) (rowAt on b).length c∧gs[b]?=some g∧Own dY 1 3 w B (.slice (some ⟨g,0,none⟩) (rowAt on b).length c) (rowAt on b):=fun b hb=>by
  obtain ⟨g,c,e1,e2,e3⟩:=k5 b on[b] (by simp [hb])
  rw [oh hb];exact ⟨g,c,by rw [jm,e1];rfl,e2,e3⟩
 have hmem:∀ u∈vs,∃ g∈gs,u.ownBlock=some g:=fun u hu=>by
  obtain ⟨i,hi,rfl⟩:=cZ hu;obtain ⟨g,c,e1,e2,_⟩:=k5 i on[i] (by simp [← k2,hi])
  rw [fF hi] at e1
  injection e1 with e1
  exact ⟨g,Ld e2,by rw [e1];rfl⟩
 refine ⟨vs,k1,k2,fun b hb=>?_,Own.nil,rfl,(fun o ho=>by cases ho),hH,hM,h2,h4,h7,?_,List.Pairwise.nil⟩
 ·obtain ⟨g,c,e1,_,e3⟩:=hrow b hb;show Own dY 1 3 w B (vs.getD b gJ) (rowAt on b);rw [e1];exact e3
 ·show um (vs++[vI,vU,vX]);unfold um;rw [yQ];refine ⟨?_,?_,fun a ha b hb g hg=>?_⟩
  ·rw [uF];intro i j hi hj hij g hg he;obtain ⟨g1,c1,a1,b1,_⟩:=k5 i on[i] (by simp [← k2,hi])
   obtain ⟨g2,c2,a2,b2,_⟩:=k5 j on[j] (by simp [← k2,hj])
   rw [fF hi] at a1
   rw [fF hj] at a2
   injection a1 with a1
   injection a2 with a2
   rw [a1] at hg
   rw [a2] at he
   simp only [Value.ownBlock,AV] at hg he
   have hgi:i<gs.length:=by rw [k3,← k2];exact hi
   have hgj:j<gs.length:=by rw [k3,← k2];exact hj
   rw [fF hgi] at b1
   rw [fF hgj] at b2
   injection b1 with b1
   injection b2 with b2
   have:gs[i]=gs[j]:=by rw [b1,b2,hg,he]
   have:=(List.getElem_inj k4).1 this;omega
  ·refine List.Pairwise.cons (fun b hb g hg=>?_) (List.Pairwise.cons (fun b hb g hg=>?_) (La _ _))
   ·rcases nY.1 hb with rfl|hb
    ·exact h6 g hg
    ·obtain rfl:=pX.1 hb;exact h9 g hg
   ·obtain rfl:=pX.1 hb;exact h10 g hg
  ·obtain ⟨g',hg',e⟩:=hmem a ha;rw [hg] at e
   injection e with e
   subst e;simp only [nY,Bh,o9] at hb
   rcases hb with rfl|rfl|rfl
   ·exact h3 g hg'
   ·exact h5 g hg'
   ·exact h8 g hg'
end
end Wh
namespace Wh
open Go Go.RowKit Go.Proofs Tryz
theorem Below.bG {k:Nat} {a w w':World} (h:Below a.heap.size a w) (hg:w.grownBy w' (some k)) (hk:a.heap.size≤k:=by omega):Below a.heap.size a w':=
 h.grown hg h.size (fun _ e=>by injection e;omega)
theorem aK {ops:Array Oper} {rest:List Oper} {o:Oper} {a:Act} {w:World} {Q:Exit→Act→World→Prop} {b:Nat} (x y:Operand) (V V':SV) (ho:(o.guard,o.op,o.dst)=(none,.store 31 x y,none))
  (hbox:dN w b V) (hxy:(a.eval x,a.eval y)=(.pointer (some ⟨b,0,none⟩),V'.val)) (h1:V'.cells.all (fun u=>u.oneCell')=true)
  (h:∀ w',dN w' b V'→w.grownBy w' (some b)→wpList prog ops Q rest a w'):wpList prog ops Q (o::rest) a w:=by
 injection ho with h2 h3
 injection h3 with h3 h4
 injection hxy with h5 h6
 exact JR h2 x y h3 h4 b V V' hbox h5 h6 h1 h
theorem dn {fn:Func} {R:Ending→World→Prop} {a:Act} {w:World} {i j b:Nat} {V:SV} (hr:fn.results=#[.cell i 31,.tmp j]) (h:dN w b V)
  (hi:a.tmps.getD i undef=.pointer (some ⟨b,0,none⟩)) (hd:a.defers=[]) (hR:R (.returned (.tuple #[V.val,a.tmps.getD j undef])) w):bodyPost prog fn R .ret a w:=by
 refine jS (v:=.tuple #[V.val,a.tmps.getD j undef]) ?_ hd hR
 obtain ⟨p0,p1,p2,p3,p4,p5,p6⟩:=dN.cells h;have hi':=hi;rw [Bz] at hi'
 simp [results,hr,hi',go_sem,SV.val,p0,p1,p2,p3,p4,p5,p6]
end Wh
namespace Wh
open Go Go.RowKit
structure GB where
 d:Nat
 os:Array Obj
instance:Inhabited GB:=⟨⟨0,#[]⟩⟩
def wld (w:World) (d:Nat) (os:Array Obj):World:={w with drawn:=d,heap:=w.heap++os}
theorem dZ (w:World) (d:Nat) (os:Array Obj):Below w.heap.size w (wld w d os):=
 ⟨rfl,rfl,rfl,by simp [wld],fun k hk=>by simp [wld,XY hk]⟩
theorem Vu {w w':World} (h:Below w.heap.size w w'):∃ p:GB,w'=wld w p.d p.os:=by
 obtain ⟨h1,h2,h3,h4,h5⟩:=h;obtain ⟨heap,tape,drawn,os,output⟩:=w';refine ⟨⟨drawn,heap.extract w.heap.size heap.size⟩,?_⟩
 simp only at h1 h2 h3 h4 h5
 subst h1 h2 h3;unfold wld;congr 1
 apply Eo;intro k;by_cases hk:k<w.heap.size
 ·rw [h5 k hk,XY hk]
 ·rw [XW (by omega)]
  simp only [Array.getElem?_extract]
  by_cases hl:k<heap.size
  ·rw [ak (by omega)]
   congr 1
   omega
  ·rw [ah (by omega),qh (by omega)]
theorem aG {w:World} {b:Nat} (hb:b<w.heap.size) (o:Nat) (d:Nat) (os:Array Obj):(wld w d os).cell? ⟨b,o,none⟩=w.cell? ⟨b,o,none⟩:=
 (dZ w d os).cell (p:=⟨b,o,none⟩) hb
theorem aJ {P:Program} {id:Nat} {Q:Exit→Act→World→Prop} {a:Act} {w:World} {l:List Oper} (hm:P.follows .mixedOrders=true) (hB:Region.lexB .any l.toArray=true)
  (h:wpQuiet P l.toArray (fun w'=>∃ p:GB,w'=wld w p.d p.os) (fun a'=>∀ w',(∃ p:GB,w'=wld w p.d p.os)→Q .normal a' w') l a):(Code.region id l.toArray true).wp P Q a w:=
 wp_region_quiet (C:=fun w'=>∃ p:GB,w'=wld w p.d p.os) hm hB ⟨⟨w.drawn+1,#[]⟩,by simp [wld]⟩ (by simpa using h)
theorem bD {P:Program} {f:FuncId} {args:Array Value} {w:World} {d:Nat} {os:Array Obj} {v:Value}
  (h:Calls P f args (wld w d os) fun e w'=>e=.returned v∧Below (wld w d os).heap.size (wld w d os) w'):Calls P f args (wld w d os) fun e w''=>e=.returned v∧∃ p:GB,w''=wld w p.d p.os:=
 h.mono fun _ _ ⟨he,hb⟩=>⟨he,Vu ((dZ w d os).trans (hb.mono (dZ w d os).size))⟩
theorem sV {P:Program} {f:FuncId} {args:Array Value} {w:World} {d:Nat} {os:Array Obj} {v:Value}
  (h:Calls P f args (wld w d os) fun e w'=>e=.returned v∧wld w d os=w'):Calls P f args (wld w d os) fun e w''=>e=.returned v∧∃ p:GB,w''=wld w p.d p.os:=
 h.mono fun _ _ ⟨he,hb⟩=>⟨he,⟨d,os⟩,hb.symm⟩
theorem aI {w W:World} (h:∃ p:GB,W=wld w p.d p.os):Below w.heap.size w W:=by
 obtain ⟨p,rfl⟩:=h;exact dZ w p.d p.os
end Wh
