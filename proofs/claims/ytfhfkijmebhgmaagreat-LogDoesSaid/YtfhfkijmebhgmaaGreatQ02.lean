/- Texts of the claim, joined. -/
import Derived.Test.YtfhfkijmebhgmaaGreatQ01
set_option maxHeartbeats 20000000
set_option maxRecDepth 100000
namespace Wh
def rises (l:List Hold):Prop:=l.Pairwise fun a b=>place a<place b
def fine (l:List Hold):Prop:=∀ h∈l,eX h=true
def jL (o ln b:Int):Prop:=(0≤o∧o≤3)∧(0≤ln∧ln≤2)∧(0≤b∧b≤5)
theorem gG {h:Hold}:eX h=true↔jL h.order h.line h.bin∧1≤h.n∧h.n≤200:=by
 simp only [eX,dL,within_iff,jL];omega
theorem UA {a b:Hold} (ha:jL a.order a.line a.bin) (hb:jL b.order b.line b.bin) (h:place a=place b):a.order=b.order∧a.line=b.line∧a.bin=b.bin:=by
 unfold jL at ha hb
 unfold place at h
 omega
theorem vT {a b:Hold} (h:a.order=b.order∧a.line=b.line∧a.bin=b.bin):place a=place b:=by
 unfold place;rw [h.1,h.2.1,h.2.2]
theorem bV {l:List Hold} {k:Nat} (hk:k<l.length):hold l k=l[k]:=by simp [hold,hk]
theorem bC {l:List Hold}:bQ l=true↔fine l∧rises l:=by
 simp only [bQ,bY,lu,dL,mO,dR];constructor
 ·intro h;have hstep:∀ k,k+1<l.length→place (hold l k)<place (hold l (k+1)):=fun k hk=>by
   rcases (h (k+1) hk).2 with h1|h1
   ·omega
   ·simpa using h1
  have hmono:∀ d i,i+d+1<l.length→place (hold l i)<place (hold l (i+d+1)):=by
   intro d;induction d with
   |zero=>exact fun i hi=>hstep i (by omega)
   |succ d ih=>
    intro i hi;have h1:=ih i (by omega)
    have h2:=hstep (i+d+1) (by omega)
    rw [show i+(d+1)+1=i+d+1+1 by omega]
    omega
  refine ⟨fun x hx=>?_,?_⟩
  ·obtain ⟨k,hk,rfl⟩:=cZ hx;rw [← bV hk];exact (h k hk).1
  ·refine uF.2 fun i j hi hj hij=>?_
   have:=hmono (j - i - 1) i (by omega)
   rw [show i+(j - i - 1)+1=j by omega,bV hi,bV hj] at this
   exact this
 ·rintro ⟨h1,h2⟩ k hk;refine ⟨by rw [bV hk];exact h1 _ (eF hk),?_⟩
  by_cases h0:k=0
  ·exact .inl h0
  ·refine .inr ?_
   rw [bV hk,bV (show k - 1<l.length by omega)]
   exact uF.1 h2 (k - 1) k (by omega) hk (by omega)
theorem sameKey_iff {o ln b:Int} {h:Hold}:sameKey o ln b h=true↔h.order=o∧h.line=ln∧h.bin=b:=by
 simp [sameKey,D8]
theorem sK {l:List Hold} (_hf:fine l) (hr:rises l) {h:Hold} (hm:h∈l):aF l h.order h.line h.bin=h.n:=by
 unfold aF;cases hx:l.find? (sameKey h.order h.line h.bin) with
 |none=>
  have:=List.find?_eq_none.1 hx h hm
  simp [sameKey] at this
 |some x=>
  have h1:=sameKey_iff.1 (List.find?_some hx)
  have h2:=XD hx
  have h3:place x=place h:=vT h1;have h4:x=h:=by
   obtain ⟨i,hi,rfl⟩:=cZ h2;obtain ⟨j,hj,rfl⟩:=cZ hm;rcases Nat.lt_trichotomy i j with h5|rfl|h5
   ·have:=uF.1 hr i j hi hj h5;omega
   ·rfl
   ·have:=uF.1 hr j i hj hi h5;omega
  rw [h4]
theorem sJ {l:List Hold} {o ln b:Int} (h:∀ x∈l,¬ (x.order=o∧x.line=ln∧x.bin=b)):aF l o ln b=0:=by
 unfold aF;cases hx:l.find? (sameKey o ln b) with
 |none=>rfl
 |some x=>exact absurd (sameKey_iff.1 (List.find?_some hx)) (h x (XD hx))
theorem Nq {l:List Hold} (hf:fine l) (hr:rises l) (o ln b:Int):
  (∃ h∈l,h.order=o∧h.line=ln∧h.bin=b∧aF l o ln b=h.n)∨((∀ x∈l,¬ (x.order=o∧x.line=ln∧x.bin=b))∧aF l o ln b=0):=by
 by_cases h:∃ x∈l,x.order=o∧x.line=ln∧x.bin=b
 ·obtain ⟨x,hx,rfl,rfl,rfl⟩:=h;exact .inl ⟨x,hx,rfl,rfl,rfl,sK hf hr hx⟩
 ·refine .inr ⟨fun x hx he=>h ⟨x,hx,he⟩,sJ fun x hx he=>h ⟨x,hx,he⟩⟩
theorem wY {l:List Hold} (hf:fine l) (hr:rises l) (o ln b:Int):0≤aF l o ln b∧aF l o ln b≤200:=by
 rcases Nq hf hr o ln b with ⟨h,hm,_,_,_,he⟩|⟨_,he⟩
 ·have:=gG.1 (hf h hm);omega
 ·omega
theorem sN {l:List Hold} (hf:fine l) (hr:rises l) {o ln b:Int} (h:aF l o ln b≠0):jL o ln b∧⟨o,ln,b,aF l o ln b⟩∈l:=by
 rcases Nq hf hr o ln b with ⟨h',hm,rfl,rfl,rfl,he⟩|⟨_,he⟩
 ·exact ⟨(gG.1 (hf h' hm)).1,by rw [he];exact hm⟩
 ·exact absurd he h
theorem BJ {l:List Hold} {h x:Hold}:x∈dA l h↔(x∈l∧place x≠place h)∨(x=h∧h.n≠0):=by
 unfold dA;simp only [qQ,qP,dR];by_cases h0:h.n=0
 ·simp only [h0,ite_true,Bh,o9,ne_eq,KT,uz,o9];constructor
  ·rintro (⟨h1,h2⟩|⟨h1,h2⟩)
   ·exact ⟨h1,by omega⟩
   ·exact ⟨h1,by omega⟩
  ·rintro ⟨h1,h2⟩;rcases Int.lt_or_lt_of_ne h2 with h3|h3
   ·exact .inl ⟨h1,h3⟩
   ·exact .inr ⟨h1,h3⟩
 ·simp only [h0,KU,pX,ne_eq,not_false_eq_true,nV];constructor
  ·rintro ((⟨h1,h2⟩|h1)|⟨h1,h2⟩)
   ·exact .inl ⟨h1,by omega⟩
   ·exact .inr h1
   ·exact .inl ⟨h1,by omega⟩
  ·rintro (⟨h1,h2⟩|h1)
   ·rcases Int.lt_or_lt_of_ne h2 with h3|h3
    ·exact .inl (.inl ⟨h1,h3⟩)
    ·exact .inr ⟨h1,h3⟩
   ·exact .inl (.inr h1)
theorem jay {l:List Hold} {h:Hold} (hr:rises l):rises (dA l h):=by
 unfold dA rises;rw [yQ,yQ];refine ⟨⟨hr.filter _,?_,?_⟩,hr.filter _,?_⟩
 ·split<;>simp
 ·intro a ha b hb;simp only [qP,dR] at ha
  split at hb
  ·simp at hb
  ·obtain rfl:=pX.1 hb;exact ha.2
 ·intro a ha b hb;simp only [qP,dR] at hb
  rcases qQ.1 ha with ha|ha
  ·simp only [qP,dR] at ha
   omega
  ·split at ha
   ·simp at ha
   ·obtain rfl:=pX.1 ha;exact hb.2
theorem OW {l:List Hold} {h:Hold} (hl:bQ l=true) (hk:jL h.order h.line h.bin) (hn:0≤h.n∧h.n≤200):bQ (dA l h)=true:=by
 rw [bC] at hl ⊢
 refine ⟨fun x hx=>?_,jay hl.2⟩
 rcases BJ.1 hx with ⟨h1,_⟩|⟨rfl,h1⟩
 ·exact hl.1 x h1
 ·exact gG.2 ⟨hk,by omega,hn.2⟩
theorem wz {l:List Hold} {h:Hold} (hl:bQ l=true) (hk:jL h.order h.line h.bin) (hn:0≤h.n∧h.n≤200) (o ln b:Int):
  aF (dA l h) o ln b=if h.order=o∧h.line=ln∧h.bin=b then h.n else aF l o ln b:=by
 have hw:=OW hl hk hn;rw [bC] at hw hl
 split
 ·rename_i he
  obtain ⟨rfl,rfl,rfl⟩:=he;by_cases h0:h.n=0
  ·rw [h0];refine sJ fun x hx he=>?_
   rcases BJ.1 hx with ⟨_,h2⟩|⟨_,h2⟩
   ·exact h2 (vT he)
   ·exact h2 h0
  ·exact sK hw.1 hw.2 (BJ.2 (.inr ⟨rfl,h0⟩))
 ·rename_i he
  rcases Nq hl.1 hl.2 o ln b with ⟨x,hx,rfl,rfl,rfl,e⟩|⟨h1,e⟩
  ·rw [e];refine sK hw.1 hw.2 (BJ.2 (.inl ⟨hx,fun hp=>?_⟩))
   have:=UA (gG.1 (hl.1 x hx)).1 hk hp;exact he ⟨this.1.symm,this.2.1.symm,this.2.2.symm⟩
  ·rw [e];refine sJ fun x hx hxe=>?_
   rcases BJ.1 hx with ⟨h2,_⟩|⟨rfl,_⟩
   ·exact h1 x h2 hxe
   ·exact he hxe
theorem yc {l:List Hold} (hl:bQ l=true) (o ln:Int):kept l o ln=sumTo (fun b=>aF l o ln b) 6:=by
 have key:∀ l:List Hold,fine l→rises l→kept l o ln=sumTo (fun b=>aF l o ln b) 6:=by
  intro l;induction l with
  |nil=>intro _ _;simp [kept,aF,sumTo]
  |cons x l ih=>
   intro hf hr;have hf':fine l:=fun h hm=>hf h (fA _ hm)
   have hr':=Gt.1 hr;have ih':=ih hf' hr'.2;have hx:=gG.1 (hf x (iK ..));have hcons:∀ b,aF (x::l) o ln b=if x.order=o∧x.line=ln∧x.bin=b then x.n else aF l o ln b:=by
    intro b;unfold aF;rw [PO]
    by_cases hk:x.order=o∧x.line=ln∧x.bin=b
    ·rw [ak hk,sameKey_iff.2 hk]
    ·rw [ah hk,show sameKey o ln b x=false by rw [← yZ,sameKey_iff];exact hk]
   by_cases hs:x.order=o∧x.line=ln
   ·have h0:aF l o ln x.bin=0:=sJ fun y hy he=>by
     have h1:=hr'.1 y hy;rw [vT ⟨hs.1.trans he.1.symm,hs.2.trans he.2.1.symm,he.2.2.symm⟩] at h1
     omega
    have hk1:kept (x::l) o ln=kept l o ln+x.n:=by
     unfold kept;rw [uH (by simp [qV,hs.1,hs.2])]
     simp [Int.add_comm]
    rw [hk1,ih'];refine (vP (f:=fun b=>aF l o ln b) (g:=fun b=>aF (x::l) o ln b) (i:=x.bin.toNat) (d:=x.n) ?_ ?_ ?_).symm
    ·have:=hx.1.2.2;omega
    ·intro b _ hb;show aF (x::l) o ln b=aF l o ln b;rw [hcons,ah (by have:=hx.1.2.2;omega)]
    ·have hb:=hx.1.2.2;show aF (x::l) o ln (x.bin.toNat:Int)=aF l o ln (x.bin.toNat:Int)+x.n;rw [Int.toNat_of_nonneg hb.1,hcons,ak ⟨hs.1,hs.2,rfl⟩,h0];omega
   ·have hk1:kept (x::l) o ln=kept l o ln:=by
     unfold kept;rw [Bq (by simp [qV];exact fun h=>fun h'=>hs ⟨h,h'⟩)]
    rw [hk1,ih'];refine sumTo_congr fun b _=>?_
    show _=aF (x::l) o ln b;rw [hcons,ah (fun he=>hs ⟨he.1,he.2.1⟩)]
 rw [bC] at hl
 exact key l hl.1 hl.2
theorem UO {l:List Hold} {h:Hold} (hl:bQ l=true) (hk:jL h.order h.line h.bin) (hn:0≤h.n∧h.n≤200) (o ln:Int):
  kept (dA l h) o ln=kept l o ln+if h.order=o∧h.line=ln then h.n - aF l h.order h.line h.bin else 0:=by
 rw [yc (OW hl hk hn),yc hl];by_cases hs:h.order=o∧h.line=ln
 ·rw [ak hs];obtain ⟨rfl,rfl⟩:=hs;refine vP (i:=h.bin.toNat) (by have:=hk.2.2;omega) (fun b _ hb=>?_) ?_
  ·show aF (dA l h) _ _ _=_;rw [wz hl hk hn,ah (by have:=hk.2.2;omega)]
  ·show aF (dA l h) _ _ _=_;rw [wz hl hk hn,ak ⟨rfl,rfl,by have:=hk.2.2;omega⟩]
   rw [show ((h.bin.toNat:Nat):Int)=h.bin by have:=hk.2.2;omega]
   omega
 ·rw [ah hs,mM];refine sumTo_congr fun b _=>?_
  show aF (dA l h) _ _ _=_;rw [wz hl hk hn,ah (fun he=>hs ⟨he.1,he.2.1⟩)]
theorem lK {l:List Hold} (hl:bQ l=true) (o ln:Int):0≤kept l o ln∧kept l o ln≤1200:=by
 rw [yc hl];rw [bC] at hl
 have:=sZ (f:=fun b=>aF l o ln b) (n:=6) (m:=200) fun b _=>wY hl.1 hl.2 o ln b
 omega
def NM (a b:Int):Int:=if a<b then -1 else if b<a then 1 else 0
def ord (a b:Hold):Int:=
 if NM a.order b.order≠0 then NM a.order b.order else if NM a.line b.line≠0 then NM a.line b.line else NM a.bin b.bin
theorem FV (a b:Int):(a<b∧NM a b= -1)∨(b<a∧NM a b=1)∨(a=b∧NM a b=0):=by
 unfold NM;rcases LJ a b with h|h|h
 ·exact .inl ⟨h,ak h⟩
 ·exact .inr (.inr ⟨h,by rw [ah (by omega),ah (by omega)]⟩)
 ·exact .inr (.inl ⟨h,by rw [ah (by omega),ak h]⟩)
theorem Az (a b:Hold):(ord a b= -1∧(a.order<b.order∨a.order=b.order∧(a.line<b.line∨a.line=b.line∧a.bin<b.bin)))∨
  (ord a b=1∧(b.order<a.order∨a.order=b.order∧(b.line<a.line∨a.line=b.line∧b.bin<a.bin)))∨(ord a b=0∧a.order=b.order∧a.line=b.line∧a.bin=b.bin):=by
 unfold ord;rcases FV a.order b.order with ⟨h1,e1⟩|⟨h1,e1⟩|⟨h1,e1⟩<;>rcases FV a.line b.line with ⟨h2,e2⟩|⟨h2,e2⟩|⟨h2,e2⟩<;>
  rcases FV a.bin b.bin with ⟨h3,e3⟩|⟨h3,e3⟩|⟨h3,e3⟩<;>simp only [e1,e2,e3]<;>simp<;>omega
theorem O1 {a b:Hold}:ord a b<0↔(a.order<b.order∨a.order=b.order∧(a.line<b.line∨a.line=b.line∧a.bin<b.bin)):=by
 rcases Az a b with ⟨h,h'⟩|⟨h,h'⟩|⟨h,h'⟩<;>rw [h]<;>omega
theorem zo {a b:Hold}:ord a b=0↔(a.order=b.order∧a.line=b.line∧a.bin=b.bin):=by
 rcases Az a b with ⟨h,h'⟩|⟨h,h'⟩|⟨h,h'⟩<;>rw [h]<;>omega
theorem I9 {a b:Hold} (ha:jL a.order a.line a.bin) (hb:jL b.order b.line b.bin):ord a b<0↔place a<place b:=by
 rw [O1];unfold jL at ha hb
 unfold place;omega
theorem jaZ {a b:Hold} (ha:jL a.order a.line a.bin) (hb:jL b.order b.line b.bin):ord a b=0↔place a=place b:=by
 rw [zo];unfold jL at ha hb
 unfold place;omega
def pos (l:List Hold) (h:Hold):Nat:=(l.takeWhile fun x=>decide (ord x h<0)).length
def found (l:List Hold) (h:Hold):Bool:=decide (pos l h<l.length)&&decide (ord (hold l (pos l h)) h=0)
theorem Es {α:Type} (p:α→Bool):∀ (l:List α) (k:Nat),k≤l.length→(∀ i (hi:i<l.length),i<k→p l[i]=true)→(∀ (hk:k<l.length),p l[k]=false)→(l.takeWhile p).length=k
 |[],k,hk,_,_=>by simp at hk;simp [hk]
 |x::l,0,_,_,h2=>by
  have:=h2 (by simp)
  simp at this
  simp [this]
 |x::l,k+1,hk,h1,h2=>by
  have h0:=h1 0 (by simp) (by omega)
  simp at h0
  rw [Pz,h0,ak rfl,gQ,Es p l k (by simpa using hk) (fun i hi hik=>h1 (i+1) (by simpa using hi) (by omega)) (fun hk'=>h2 (by simpa using hk'))]
theorem G5 {α:Type} (p:α→Bool):∀ (l:List α),(l.takeWhile p).length≤l.length∧(∀ i (hi:i<l.length),i<(l.takeWhile p).length→p l[i]=true)∧∀ (hk:(l.takeWhile p).length<l.length),p l[(l.takeWhile p).length]=false
 |[]=>by simp
 |x::l=>by
  obtain ⟨h1,h2,h3⟩:=G5 p l;by_cases hx:p x=true
  ·have e:(x::l).takeWhile p=x::l.takeWhile p:=by rw [Pz,ak hx]
   rw [e];refine ⟨by simpa using h1,fun i hi hik=>?_,fun hk=>?_⟩
   ·cases i with
    |zero=>simpa using hx
    |succ i=>simpa using h2 i (by simpa using hi) (by simpa using hik)
   ·have:=h3 (by simpa using hk)
    simpa using this
  ·have e:(x::l).takeWhile p=[]:=by rw [Pz,ah hx]
   rw [e];exact ⟨by simp,fun i hi hik=>by simp at hik,fun hk=>by simpa using hx⟩
theorem pos_eq {l:List Hold} {h:Hold} {k:Nat} (hk:k≤l.length) (h1:∀ i,i<k→ord (hold l i) h<0) (h2:k<l.length→0≤ord (hold l k) h):pos l h=k:=
 Es _ l k hk (fun i hi hik=>by have:=h1 i hik;rw [bV hi] at this;simpa using this) (fun hk'=>by have:=h2 hk';rw [bV hk'] at this;simpa using this)
theorem LV (l:List Hold) (h:Hold):pos l h≤l.length∧(∀ i,i<pos l h→ord (hold l i) h<0)∧(pos l h<l.length→0≤ord (hold l (pos l h)) h):=by
 obtain ⟨h1,h2,h3⟩:=G5 (fun x=>decide (ord x h<0)) l
 refine ⟨h1,fun i hi=>?_,fun hk=>?_⟩
 ·have:=h2 i (aZ hi h1) hi;rw [bV (aZ hi h1)];simpa using this
 ·have:=h3 hk;rw [bV hk];exact Int.not_lt.1 (of_decide_eq_false this)
theorem jjd {l:List Hold} (h:bQ l=true) {i:Nat} (hi:i<l.length):eX (hold l i)=true:=by
 rw [bV hi];exact (bC.1 h).1 _ (eF hi)
theorem zH {l:List Hold} (h:bQ l=true) {i:Nat} (hi:i<l.length):jL (hold l i).order (hold l i).line (hold l i).bin:=(gG.1 (jjd h hi)).1
theorem jdn {l:List Hold} (h:bQ l=true) {i:Nat} (hi:i<l.length):1≤(hold l i).n∧(hold l i).n≤200:=(gG.1 (jjd h hi)).2
theorem YG {l:List Hold} (h:bQ l=true) {i j:Nat} (hij:i<j) (hj:j<l.length):ord (hold l i) (hold l j)<0:=by
 rw [I9 (zH h (by omega)) (zH h hj),bV hj,bV (show i<l.length by omega)]
 exact uF.1 (bC.1 h).2 i j (by omega) hj hij
theorem UF {a b c:Hold} (h1:ord a b<0) (h2:ord b c≤0):ord a c<0:=by
 rw [O1] at*
 rcases Az b c with ⟨h,h'⟩|⟨h,h'⟩|⟨h,h'⟩<;>omega
theorem jct {l:List Hold} (h:bQ l=true) {x:Hold} {i j:Nat} (hij:i≤j) (hj:j<l.length) (hx:ord (hold l j) x<0):ord (hold l i) x<0:=by
 rcases Ee hij with h1|rfl
 ·exact UF (YG h h1 hj) (by omega)
 ·exact hx
theorem oV {l:List Hold} {h:Hold}:found l h=true↔pos l h<l.length∧ord (hold l (pos l h)) h=0:=by
 unfold found;simp
theorem KC {l:List Hold} (hl:bQ l=true) {h:Hold} (hf:found l h=true):aF l h.order h.line h.bin=(hold l (pos l h)).n:=by
 obtain ⟨h1,h2⟩:=oV.1 hf;obtain ⟨e1,e2,e3⟩:=zo.1 h2;obtain ⟨g1,g2⟩:=bC.1 hl;rw [← e1,← e2,← e3];exact sK g1 g2 (by rw [bV h1];exact eF h1)
theorem JA {l:List Hold} (hl:bQ l=true) {h:Hold} (hf:found l h=false):aF l h.order h.line h.bin=0:=by
 refine sJ fun x hx hk=>?_
 obtain ⟨i,hi,rfl⟩:=cZ hx;have h0:ord (hold l i) h=0:=by rw [bV hi];exact zo.2 hk
 obtain ⟨p1,p2,p3⟩:=LV l h;have hip:pos l h≤i:=Gq fun hn=>by have:=p2 i hn;omega
 have hp:pos l h=i:=by
  rcases Ee hip with h1|h1
  ·have:=UF (YG hl h1 hi) (by omega:ord (hold l i) h≤0)
   have:=p3 (by omega)
   omega
  ·exact h1
 have:found l h=true:=oV.2 ⟨by omega,by rw [hp];exact h0⟩
 rw [hf] at this
 cases this
theorem filter_lt {l:List Hold} (hl:bQ l=true) {h:Hold} (hk:jL h.order h.line h.bin):l.filter (fun x=>decide (place x<place h))=l.take (pos l h):=by
 obtain ⟨p1,p2,p3⟩:=LV l h;have key:∀ i (hi:i<l.length),(place l[i]<place h↔i<pos l h):=fun i hi=>by
  have hki:=zH hl hi;rw [bV hi] at hki
  rw [← I9 hki hk,← bV hi];constructor
  ·intro hlt;exact Nat.lt_of_not_le fun hn=>by have:=jct hl hn hi hlt;have:=p3 (by omega);omega
  ·exact p2 i
 conv=>lhs;rw [← Ba (pos l h) l]
 rw [qR,Ej.2,Lr.2,mJ]
 ·intro x hx;obtain ⟨i,hi,rfl⟩:=cZ hx;rw [List.getElem_drop];rw [jT] at hi
  simp only [dR];intro hc;have:=(key (pos l h+i) (by omega)).1 hc
  omega
 ·intro x hx;obtain ⟨i,hi,rfl⟩:=cZ hx;rw [Lj];rw [dS] at hi
  simp only [dR];exact (key i (by omega)).2 (by omega)
theorem NG {l:List Hold} (hl:bQ l=true) {h:Hold} (hk:jL h.order h.line h.bin):
  l.filter (fun x=>decide (place h<place x))=l.drop (if found l h then pos l h+1 else pos l h):=by
 obtain ⟨p1,p2,p3⟩:=LV l h;have key:∀ i (hi:i<l.length),(place h<place l[i]↔(if found l h then pos l h+1 else pos l h)≤i):=fun i hi=>by
  have hki:=zH hl hi;have a1:=I9 hki hk;have a2:=jaZ hki hk;rw [← bV hi];have e:place h<place (hold l i)↔0<ord (hold l i) h:=by omega
  rw [e];constructor
  ·intro hlt;have hge:pos l h≤i:=Gq fun hn=>by have:=p2 i hn;omega
   split
   ·rename_i hf
    obtain ⟨f1,f2⟩:=oV.1 hf;rcases Ee hge with h1|h1
    ·omega
    ·rw [← h1] at hlt;omega
   ·exact hge
  ·intro hge;split at hge
   ·rename_i hf
    obtain ⟨f1,f2⟩:=oV.1 hf;have h1:=YG hl (show pos l h<i by omega) hi
    rw [zo] at f2
    rw [O1] at h1
    rcases Az (hold l i) h with ⟨h,h'⟩|⟨h,h'⟩|⟨h,h'⟩<;>omega
   ·rename_i hf
    have hp3:=p3 (by omega)
    have hnz:ord (hold l (pos l h)) h≠0:=fun h0=>hf (oV.2 ⟨by omega,h0⟩)
    rcases Ee hge with h1|h1
    ·have h2:=YG hl h1 hi;rw [O1] at h2
     rcases Az (hold l (pos l h)) h with ⟨q,q'⟩|⟨q,q'⟩|⟨q,q'⟩<;>rcases Az (hold l i) h with ⟨g,g'⟩|⟨g,g'⟩|⟨g,g'⟩<;>omega
    ·rw [← h1];omega
 generalize (if found l h then pos l h+1 else pos l h)=q at key ⊢
 conv=>lhs;rw [← Ba q l]
 rw [qR,Lr.2,Ej.2,lq]
 ·intro x hx;obtain ⟨i,hi,rfl⟩:=cZ hx;rw [List.getElem_drop];rw [jT] at hi
  simp only [dR];exact (key (q+i) (by omega)).2 (by omega)
 ·intro x hx;obtain ⟨i,hi,rfl⟩:=cZ hx;rw [Lj];rw [dS] at hi
  simp only [dR];intro hc;have:=(key i (by omega)).1 hc
  omega
theorem jem {l:List Hold} (hl:bQ l=true) {h:Hold} (hk:jL h.order h.line h.bin) (hn:h.n≠0) (hf:found l h=false):dA l h=l.take (pos l h)++h::l.drop (pos l h):=by
 unfold dA;rw [filter_lt hl hk,NG hl hk,hf,ah hn];simp
theorem je3 (l:List Hold) (h:Hold) (n:Int):pos l {h with n:=n}=pos l h:=rfl
theorem WU (l:List Hold) (h:Hold) (n:Int):found l {h with n:=n}=found l h:=rfl
theorem Ui {l:List Hold} (hl:bQ l=true) {h:Hold} (hk:jL h.order h.line h.bin) (hn:h.n≠0) (hf:found l h=true):dA l h=l.set (pos l h) h:=by
 unfold dA;obtain ⟨f1,f2⟩:=oV.1 hf;rw [filter_lt hl hk,NG hl hk,hf,ah hn,Xz,ak f1];simp
theorem Uj {l:List Hold} (hl:bQ l=true) {h:Hold} (hk:jL h.order h.line h.bin) (hn:h.n=0) (hf:found l h=true):dA l h=l.eraseIdx (pos l h):=by
 unfold dA;rw [filter_lt hl hk,NG hl hk,hf,ak hn,Ls];simp
theorem jdU {l:List Hold} (hl:bQ l=true) {h:Hold} (hf:found l h=true):jL h.order h.line h.bin:=by
 obtain ⟨f1,f2⟩:=oV.1 hf;obtain ⟨e1,e2,e3⟩:=zo.1 f2;rw [← e1,← e2,← e3];exact zH hl f1
def ny (l:List Hold) (h:Hold) (k:Nat):Bool:=decide (h.n=0)||(l.take k).any fun x=>decide (place h≤place x)
def jB (l:List Hold) (h:Hold) (k:Nat):List Hold:=
 (l.take k).filter (fun x=>decide (place x<place h))++(if ny l h k=true∧h.n≠0 then [h] else [])++(l.take k).filter (fun x=>decide (place h<place x))
theorem IX {l:List Hold} {k:Nat} (hk:k<l.length):l.take (k+1)=l.take k++[hold l k]:=by
 rw [l9 hk,bV hk]
theorem Vp {l:List Hold} (hr:rises l) {k:Nat} (hk:k<l.length):∀ x∈l.take k,place x<place (hold l k):=by
 intro x hx;obtain ⟨i,hi,rfl⟩:=cZ hx;rw [dS] at hi
 rw [Lj,bV hk];exact uF.1 hr i k (by omega) hk (by omega)
theorem NT (l:List Hold) (h:Hold):jB l h 0=[]∧ny l h 0=decide (h.n=0):=by
 unfold jB ny;simp
theorem jhk {l:List Hold} {h:Hold} (hb:∀ x∈l,place x<place h):(l.any fun x=>decide (place h≤place x))=false:=by
 rw [Em];intro x hx;have:=hb x hx;simp only [dR];omega
theorem Og {l:List Hold} {h:Hold} (hb:∀ x∈l,place x<place h):l.filter (fun x=>decide (place h<place x))=[]:=by
 rw [Lr];intro x hx;have:=hb x hx;simp only [dR];omega
theorem GZ {l:List Hold} {h:Hold} (hr:rises l) {k:Nat} (hk:k<l.length) (hp:place (hold l k)<place h):jB l h (k+1)=jB l h k++[hold l k]∧ny l h (k+1)=ny l h k:=by
 have hb:∀ x∈l.take k,place x<place h:=fun x hx=>Int.lt_trans (Vp hr hk x hx) hp
 have hd:ny l h (k+1)=ny l h k:=by
  unfold ny;rw [IX hk,List.any_append,jhk hb];simp;omega
 refine ⟨?_,hd⟩
 have hd0:ny l h k=decide (h.n=0):=by
  unfold ny;rw [jhk hb,Bool.or_false]
 have hno:¬ (ny l h k=true∧h.n≠0):=by
  rw [hd0];simp
 unfold jB;rw [hd,IX hk,qR,qR,Og hb,ah hno,uI,ak (by simpa using hp),uI,ah (by simp;omega)]
 simp
theorem MO {l:List Hold} {h:Hold} {k:Nat} (hk:k<l.length) (hp:place h≤place (hold l k)):ny l h (k+1)=true:=by
 unfold ny;rw [IX hk,List.any_append];simp [hp]
theorem FN {l:List Hold} {h:Hold} {k:Nat} (hk:k<l.length) (hp:place h≤place (hold l k)):
  jB l h (k+1)=(l.take k).filter (fun x=>decide (place x<place h))++(if h.n≠0 then [h] else [])++((l.take k).filter (fun x=>decide (place h<place x))++if place h<place (hold l k) then [hold l k] else []):=by
 unfold jB;rw [MO hk hp,IX hk,qR,qR,uI,ah (by simp;omega),uI]
 simp
theorem VZ {l:List Hold} {h:Hold} {k:Nat} (hd:ny l h k=false):h.n≠0∧∀ x∈l.take k,place x<place h:=by
 unfold ny at hd
 simp only [Bool.or_eq_false_iff,decide_eq_false_iff_not,Em,dR] at hd
 exact ⟨hd.1,fun x hx=>by have:=hd.2 x hx;omega⟩
theorem X6 {l:List Hold} {h:Hold} {k:Nat} (hk:k<l.length) (hp:place (hold l k)=place h) (hd:ny l h k=false):jB l h (k+1)=jB l h k++[h]:=by
 obtain ⟨hn,hb⟩:=VZ hd;rw [FN hk (by omega),Og hb,ak hn,ah (by omega)]
 unfold jB;rw [hd,Og hb];simp
theorem X5 {l:List Hold} {h:Hold} (hr:rises l) {k:Nat} (hk:k<l.length) (hp:place (hold l k)=place h) (hd:ny l h k=true):jB l h (k+1)=jB l h k:=by
 have hb:∀ x∈l.take k,place x<place h:=fun x hx=>by have:=Vp hr hk x hx;omega
 rw [FN hk (by omega),Og hb,ah (show ¬ place h<place (hold l k) by omega)]
 unfold jB;rw [hd,Og hb];simp
theorem Tn {l:List Hold} {h:Hold} {k:Nat} (hk:k<l.length) (hp:place h<place (hold l k)) (hd:ny l h k=false):jB l h (k+1)=(jB l h k++[h])++[hold l k]:=by
 obtain ⟨hn,hb⟩:=VZ hd;rw [FN hk (by omega),Og hb,ak hn,ak hp]
 unfold jB;rw [hd,Og hb];simp
theorem Tm {l:List Hold} {h:Hold} {k:Nat} (hk:k<l.length) (hp:place h<place (hold l k)) (hd:ny l h k=true):jB l h (k+1)=jB l h k++[hold l k]:=by
 rw [FN hk (by omega),ak hp]
 unfold jB;rw [hd];simp
theorem Vw {l:List Hold} {h:Hold} (hd:ny l h l.length=true):dA l h=jB l h l.length:=by
 unfold dA jB;rw [hd,jE];by_cases hn:h.n=0<;>simp [hn]
theorem Vy {l:List Hold} {h:Hold} (hd:ny l h l.length=false):dA l h=jB l h l.length++[h]:=by
 obtain ⟨hn,hb⟩:=VZ hd;rw [jE] at hb
 unfold dA jB;rw [hd,jE,Og hb,ah hn];simp
theorem Jy (l:List Hold) (h:Hold) (k:Nat):(jB l h k).length≤2*l.length+1:=by
 unfold jB;have h1:=yR (fun x=>decide (place x<place h)) (l.take k)
 have h2:=yR (fun x=>decide (place h<place x)) (l.take k)
 have h3:=PI k l;have h4:(l.take k).length≤l.length:=by rw [dS];omega
 simp only [dK];split<;>simp<;>omega
theorem jJ {l:List Hold} (h:bQ l=true):l.length≤72:=by
 have hr:=(bC.1 h).2;have hf:=(bC.1 h).1;have hp:∀ x∈l,0≤place x∧place x<72:=fun x hx=>by
  have:=(gG.1 (hf x hx)).1;unfold jL at this
  unfold place;omega
 have hn:(l.map fun x=>(place x).toNat).Nodup:=by
  rw [List.Nodup,Bg];refine LG ?_ hr
  intro a b ha hb hab;have h1:=hp a ha;have h2:=hp b hb;omega
 have hs:(l.map fun x=>(place x).toNat) ⊆ List.range 72:=fun n hn'=>by
  obtain ⟨x,hx,rfl⟩:=qO.1 hn';have:=hp x hx;exact lu.2 (by omega)
 have:=hn.length_le_of_subset hs;simpa using this
structure iI (p:Plan) (s:State):Prop where
 shelf:bW p s.on=0
 many:BX s=true
 form:formed p s=true
theorem kY {α:Type} {P:α→Bool} {l:List α} (d:α) (h:l.all P=true) {k:Nat} (hk:k<l.length):P (l.getD k d)=true:=by
 have e:l.getD k d=l[k]:=by simp [hk]
 rw [e];exact bY.1 h _ (eF hk)
theorem uo {α:Type} {P:α→Bool} {l:List α} (d:α) (h:∀ k,k<l.length→P (l.getD k d)=true):l.all P=true:=by
 rw [bY];intro x hx;obtain ⟨k,hk,rfl⟩:=cZ hx;have:=h k hk;have e:l.getD k d=l[k]:=by simp [hk]
 rwa [e] at this
theorem jlS {α:Type} {P:α→Bool} {l:List α} (d:α) {k:Nat} (hk:k<l.length) (h:P (l.getD k d)=false):l.all P=false:=by
 cases ha:l.all P
 ·rfl
 ·rw [kY d ha hk] at h;cases h
theorem xE {α:Type} (P:α→Bool) (l:List α):(l.any fun x=>!P x)= !(l.all P):=by
 induction l with
 |nil=>rfl
 |cons x l ih=>rw [LC,LD,ih,P7]
theorem sF {s:State}:BX s=true↔s.orders.length≤4∧s.moves.length≤8∧s.orders.all (fun o=>within o.lines.length 1 3)=true:=by
 unfold BX;simp only [dL,dR,D8]
theorem aS {p:Plan} {s:State}:formed p s=true↔s.orders.all (mY p)=true∧bQ s.holds=true∧s.holds.all (oO p s)=true∧s.moves.all (jR p)=true∧
  kX p s.inn 0=true∧kX p s.out 0=true∧kX p s.fixed (-1048576)=true:=by
 unfold formed;simp only [dL,D8]
theorem jF {p:Plan} {x:Line}:jY p x=true↔(0≤x.good∧x.good<p.sizes.length)∧(1≤x.want∧x.want≤200)∧(0≤x.got∧x.got≤x.want)∧(0≤x.back∧x.back≤x.want):=by
 unfold jY;simp only [dL,within_iff,lM,D8]
theorem xZ {p:Plan} {x:Move}:jR p x=true↔(0≤x.good∧x.good<p.sizes.length)∧(0≤x.src∧x.src<p.aH.length)∧(0≤x.dst∧x.dst<p.aH.length)∧x.src≠x.dst∧1≤x.n∧x.n≤200:=by
 unfold jR;simp only [dL,within_iff,lM,oU,D8,dR]
theorem vY {p:Plan} {o:Order}:mY p o=true↔(0≤o.kind∧o.kind≤2)∧o.lines.all (jY p)=true:=by
 unfold mY;simp only [dL,within_iff]
theorem jr {p:Plan} {l:List Int} {lo:Int}:kX p l lo=true↔l.length=p.sizes.length∧l.all (within · lo 1048576)=true:=by
 unfold kX;simp only [dL,dR]
theorem ig {p:Plan} {s:State} {h:Hold}:oO p s h=true↔h.order<s.orders.length∧h.line<(s.order h.order.toNat).lines.length∧h.bin<p.aH.length:=by
 unfold oO;simp only [dL,dR,D8]
namespace iI
variable {p:Plan} {s:State} (h:iI p s)
include h
theorem plan:bK p=0:=(dM.1 h.shelf).1
theorem jh:s.orders.length≤4:=(sF.1 h.many).1
theorem lJ:s.moves.length≤8:=(sF.1 h.many).2.1
theorem jX {o:Nat} (ho:o<s.orders.length):1≤(s.order o).lines.length∧(s.order o).lines.length≤3:=by
 have:=kY yC (sF.1 h.many).2.2 ho;have:=within_iff.1 this;unfold State.order ay;omega
theorem mY {o:Nat} (ho:o<s.orders.length):Wh.mY p (s.order o)=true:=kY yC (aS.1 h.form).1 ho
theorem kind {o:Nat} (ho:o<s.orders.length):0≤(s.order o).kind∧(s.order o).kind≤2:=(vY.1 (h.mY ho)).1
theorem line {o k:Nat} (ho:o<s.orders.length) (hk:k<(s.order o).lines.length):
  (0≤(s.line o k).good∧(s.line o k).good<p.sizes.length)∧(1≤(s.line o k).want∧(s.line o k).want≤200)∧(0≤(s.line o k).got∧(s.line o k).got≤(s.line o k).want)∧(0≤(s.line o k).back∧(s.line o k).back≤(s.line o k).want):=
 jF.1 (kY dLine (vY.1 (h.mY ho)).2 hk)
theorem holds:bQ s.holds=true:=(aS.1 h.form).2.1
theorem oP {k:Nat} (hk:k<s.holds.length):(0≤(hold s.holds k).order∧(hold s.holds k).order<s.orders.length)∧(0≤(hold s.holds k).line∧(hold s.holds k).line<(s.order (hold s.holds k).order.toNat).lines.length)∧
  (0≤(hold s.holds k).bin∧(hold s.holds k).bin<p.aH.length)∧(1≤(hold s.holds k).n∧(hold s.holds k).n≤200):=by
 have h1:=zH h.holds hk;have h2:=jdn h.holds hk;have h3:=ig.1 (kY Sm (aS.1 h.form).2.2.1 hk);unfold jL at h1
 change (hold s.holds k).order<_∧_ at h3
 obtain ⟨a,b,c⟩:=h3;exact ⟨⟨h1.1.1,a⟩,⟨h1.2.1.1,b⟩,⟨h1.2.2.1,c⟩,h2⟩
theorem aB {k:Nat} (hk:k<s.moves.length):(0≤(aB s.moves k).good∧(aB s.moves k).good<p.sizes.length)∧(0≤(Wh.aB s.moves k).src∧(Wh.aB s.moves k).src<p.aH.length)∧
  (0≤(Wh.aB s.moves k).dst∧(Wh.aB s.moves k).dst<p.aH.length)∧(Wh.aB s.moves k).src≠(Wh.aB s.moves k).dst∧1≤(Wh.aB s.moves k).n∧(Wh.aB s.moves k).n≤200:=
 xZ.1 (kY Iu (aS.1 h.form).2.2.2.1 hk)
theorem inn:s.inn.length=p.sizes.length∧∀ {g},g<p.sizes.length→0≤aC s.inn g∧aC s.inn g≤1048576:=by
 obtain ⟨h1,h2⟩:=jr.1 (aS.1 h.form).2.2.2.2.1;exact ⟨h1,fun hg=>within_iff.1 (kY 0 h2 (by omega))⟩
theorem out:s.out.length=p.sizes.length∧∀ {g},g<p.sizes.length→0≤aC s.out g∧aC s.out g≤1048576:=by
 obtain ⟨h1,h2⟩:=jr.1 (aS.1 h.form).2.2.2.2.2.1;exact ⟨h1,fun hg=>within_iff.1 (kY 0 h2 (by omega))⟩
theorem fixed:s.fixed.length=p.sizes.length∧∀ {g},g<p.sizes.length→ -1048576≤aC s.fixed g∧aC s.fixed g≤1048576:=by
 obtain ⟨h1,h2⟩:=jr.1 (aS.1 h.form).2.2.2.2.2.2;exact ⟨h1,fun hg=>within_iff.1 (kY 0 h2 (by omega))⟩
theorem ku:s.on.length=p.aH.length:=I4 h.shelf
theorem rowLen {b:Nat} (hb:b<p.aH.length):(rowAt s.on b).length=p.sizes.length:=IZ h.shelf (by rw [h.ku];exact hb)
theorem cell {b g:Nat} (hb:b<p.aH.length) (hg:g<p.sizes.length):0≤cell s.on b g∧Wh.cell s.on b g≤200:=xX h.shelf (by rw [h.ku];exact hb) hg
theorem counts:1≤p.aH.length∧p.aH.length≤6∧1≤p.sizes.length∧p.sizes.length≤3:=jC h.plan
end iI
theorem EP {p:Plan} {s:State} (h:bW p s.on≠0):checkState p s=bW p s.on:=by unfold checkState;rw [ak h]
theorem o8 {p:Plan} {s:State} (h:bW p s.on=0) (h2:BX s=false):checkState p s=2:=by
 unfold checkState;rw [ah (fun hn=>hn h),h2];rfl
theorem F8 {p:Plan} {s:State} (h:bW p s.on=0) (h2:BX s=true) (h3:formed p s=false):checkState p s=1:=by
 unfold checkState;rw [ah (fun hn=>hn h),h2,h3];rfl
theorem IB {p:Plan} {s:State} (h:iI p s) (h4:summed p s=false):checkState p s=7:=by
 unfold checkState;rw [ah (fun hn=>hn h.shelf),h.many,h.form,h4];rfl
theorem D5 {p:Plan} {s:State} (h:iI p s) (h4:summed p s=true):checkState p s=0:=by
 unfold checkState;rw [ah (fun hn=>hn h.shelf),h.many,h.form,h4];rfl
theorem dV {p:Plan} {s:State}:checkState p s=0↔iI p s∧summed p s=true:=by
 constructor
 ·intro h;unfold checkState at h
  split at h
  ·rename_i h1;exact absurd h h1
  ·rename_i h1
   cases h2:BX s
   ·rw [h2] at h;simp at h
   ·cases h3:formed p s
    ·rw [h2,h3] at h;simp at h
    ·cases h4:summed p s
     ·rw [h2,h3,h4] at h;simp at h
     ·exact ⟨⟨by simpa using h1,h2,h3⟩,rfl⟩
 ·rintro ⟨h,h4⟩;exact D5 h h4
def FI (s:State) (b g:Int) (k:Nat):Int:=((s.holds.take k).map (mZ s b g)).sum
def xq (l:List Move) (b g:Int) (k:Nat):Int:=((l.take k).map (qB b g)).sum
def xw (l:List Move) (b g:Int) (k:Nat):Int:=((l.take k).map (toN b g)).sum
theorem Qm {α:Type} (f:α→Int) (l:List α) (d:α) {k:Nat} (hk:k<l.length):((l.take (k+1)).map f).sum=((l.take k).map f).sum+f (l.getD k d):=by
 rw [l9 hk,jl,Gs];simp [hk]
theorem Oc {s:State} {b g:Int} {k:Nat} (hk:k<s.holds.length):FI s b g (k+1)=FI s b g k+mZ s b g (hold s.holds k):=Qm _ _ Sm hk
theorem ML {l:List Move} {b g:Int} {k:Nat} (hk:k<l.length):xq l b g (k+1)=xq l b g k+qB b g (aB l k):=Qm _ _ Iu hk
theorem JM {l:List Move} {b g:Int} {k:Nat} (hk:k<l.length):xw l b g (k+1)=xw l b g k+toN b g (aB l k):=Qm _ _ Iu hk
theorem yu (s:State) (b g:Int):FI s b g s.holds.length=iO s b g:=by unfold FI iO;rw [jE]
theorem Dw (l:List Move) (b g:Int):xq l b g l.length=fJ l b g:=by unfold xq fJ;rw [jE]
theorem FU (l:List Move) (b g:Int):xw l b g l.length=EN l b g:=by unfold xw EN;rw [jE]
theorem wW {l:List Int} {m:Int} (h:∀ x∈l,0≤x∧x≤m):0≤l.sum∧l.sum≤l.length*m:=by
 induction l with
 |nil=>simp
 |cons x l ih=>
  have h1:=h x (by simp)
  have h2:=ih (fun y hy=>h y (by simp [hy]))
  rw [kE,gQ,Int.natCast_add,GN];omega
theorem tN {p:Plan} {s:State} (h:iI p s) (b g:Int) (k:Nat):0≤FI s b g k∧FI s b g k≤14400:=by
 have h72:=jJ h.holds;have hr:=wW (l:=(s.holds.take k).map (mZ s b g)) (m:=200) (fun x hx=>by
  obtain ⟨y,hy,rfl⟩:=qO.1 hx;obtain ⟨i,hi,rfl⟩:=cZ (Lc hy);have:=jdn h.holds hi;rw [bV hi] at this
  unfold mZ;split<;>omega)
 rw [kF,dS] at hr
 unfold FI;omega
theorem yI {p:Plan} {s:State} (h:iI p s) (b g:Int) (k:Nat):0≤xq s.moves b g k∧xq s.moves b g k≤1600:=by
 have h8:=h.lJ;have hr:=wW (l:=(s.moves.take k).map (qB b g)) (m:=200) (fun x hx=>by
  obtain ⟨y,hy,rfl⟩:=qO.1 hx;obtain ⟨i,hi,rfl⟩:=cZ (Lc hy);have:=h.aB hi;rw [Wh.iM hi] at this
  unfold qB;split<;>omega)
 rw [kF,dS] at hr
 unfold xq;omega
theorem CP {p:Plan} {s:State} (h:iI p s) (b g:Int) (k:Nat):0≤xw s.moves b g k∧xw s.moves b g k≤1600:=by
 have h8:=h.lJ;have hr:=wW (l:=(s.moves.take k).map (toN b g)) (m:=200) (fun x hx=>by
  obtain ⟨y,hy,rfl⟩:=qO.1 hx;obtain ⟨i,hi,rfl⟩:=cZ (Lc hy);have:=h.aB hi;rw [Wh.iM hi] at this
  unfold toN;split<;>omega)
 rw [kF,dS] at hr
 unfold xw;omega
theorem wG {p:Plan} {s:State} (h:iI p s) (b g:Int):0≤bound s b g∧bound s b g≤16000:=by
 have h1:=tN h b g s.holds.length;have h2:=yI h b g s.moves.length;rw [yu] at h1
 rw [Dw] at h2
 unfold bound;omega
theorem nN {p:Plan} {s:State} (h:iI p s) (b g:Int):0≤coming s b g∧coming s b g≤1600:=by
 have h2:=CP h b g s.moves.length;rw [FU] at h2
 exact h2
theorem Eu {n:Nat} {P:Nat→Bool}:(List.range n).all P=true↔∀ k,k<n→P k=true:=by
 rw [bY];exact ⟨fun h k hk=>h k (lu.2 hk),fun h k hk=>h k (lu.1 hk)⟩
theorem Yt {n:Nat} {P:Nat→Bool} {k:Nat} (hk:k<n) (h:P k=false):(List.range n).all P=false:=by
 cases ha:(List.range n).all P
 ·rfl
 ·rw [Eu.1 ha k hk] at h;cases h
theorem JY {p:Plan} {s:State}:summed p s=true↔(∀ g,g<p.sizes.length→ni p s g=true)∧∀ o,o<s.orders.length→mP s o=true:=by
 unfold summed;rw [dL,Eu,Eu]
theorem Df {p:Plan} {s:State} {g:Nat} (hg:g<p.sizes.length) (h:ni p s g=false):summed p s=false:=by
 unfold summed;rw [Yt hg h,GU]
theorem jf {p:Plan} {s:State} {o:Nat} (ho:o<s.orders.length) (h:mP s o=false):summed p s=false:=by
 unfold summed;rw [Yt ho h,P8]
theorem oC {p:Plan} {s:State} {g:Nat}:ni p s g=true↔sumOf s.on g=aC s.inn g - aC s.out g+aC s.fixed g∧∀ b:Nat,b<p.aH.length→bound s b g≤cell s.on b g:=by
 unfold ni;rw [dL,Eu];simp
theorem Ih {p:Plan} {s:State} {g:Nat} (h:sumOf s.on g≠aC s.inn g - aC s.out g+aC s.fixed g):ni p s g=false:=by
 cases hq:ni p s g
 ·rfl
 ·exact absurd (oC.1 hq).1 h
theorem Ii {p:Plan} {s:State} {g b:Nat} (hb:b<p.aH.length) (h:cell s.on b g<bound s b g):ni p s g=false:=by
 cases hq:ni p s g
 ·rfl
 ·have:=(oC.1 hq).2 b hb;omega
theorem jP {s:State} {o:Nat}:mP s o=true↔¬ ((s.order o).kind=1∧iH (s.order o)=true)∧∀ k,k<(s.order o).lines.length→fM s o k=true:=by
 unfold mP;rw [dL,Eu];by_cases h1:(s.order o).kind=1<;>simp [h1]
theorem F5 {s:State} {o:Nat} (h:(s.order o).kind=1) (h2:iH (s.order o)=true):mP s o=false:=by
 cases hq:mP s o
 ·rfl
 ·exact absurd ⟨h,h2⟩ (jP.1 hq).1
theorem gW {s:State} {o k:Nat} (hk:k<(s.order o).lines.length) (h:fM s o k=false):mP s o=false:=by
 cases hq:mP s o
 ·rfl
 ·rw [(jP.1 hq).2 k hk] at h
  cases h
theorem kP {s:State} {o k:Nat}:fM s o k=true↔(s.line o k).got+(s.line o k).back+kept s.holds o k=(if (s.order o).kind=0 then 0 else (s.line o k).want)∧¬ ((s.order o).kind=2∧0<kept s.holds o k):=by
 unfold fM;by_cases h1:(s.order o).kind=2<;>simp [h1]
theorem SQ {p:Plan} {s:State} (h:iI p s) {o:Nat} (ho:o<s.orders.length):((s.order o).lines.any fun x=>decide (x.got<x.want))= !(iH (s.order o)):=by
 have hl:∀ x∈(s.order o).lines,x.got≤x.want:=fun x hx=>by
  obtain ⟨k,hk,rfl⟩:=cZ hx;have:=(h.line ho hk).2.2.1.2;unfold State.line at this
  rwa [iZ hk] at this
 unfold iH;rw [← xE];generalize (s.order o).lines=l at hl
 induction l with
 |nil=>rfl
 |cons x l ih=>
  rw [LC,LC,ih (fun y hy=>hl y (by simp [hy]))]
  congr 1
  have:=hl x (by simp)
  rw [GV];simp
  omega
theorem oI {o:Order}:iH o=true↔∀ k,k<o.lines.length→(bH o.lines k).got=(bH o.lines k).want:=by
 unfold iH;constructor
 ·intro h k hk;have:=kY dLine h hk;simpa [bH] using this
 ·intro h;refine uo dLine fun k hk=>?_
  have:=h k hk;unfold bH at this
  simpa using this
theorem jaA {p:Plan} (l:List Int) (lo:Int) (hn:0<p.sizes.length):(l.length≠p.sizes.length∧kX p l lo=false)∨(l.length=p.sizes.length∧lowest l<lo∧kX p l lo=false)∨
  (l.length=p.sizes.length∧lo≤lowest l∧1048576<greatest l∧kX p l lo=false)∨(l.length=p.sizes.length∧lo≤lowest l∧greatest l≤1048576∧kX p l lo=true):=by
 by_cases h1:l.length=p.sizes.length
 ·have hp:0<l.length:=by omega
  have hlo:lo≤lowest l↔∀ j,j<l.length→lo≤aC l j:=by
   unfold lowest;rw [Hr];exact ⟨fun h j hj=>h j (by omega),fun h j hj=>h j (by omega)⟩
  have hhi:greatest l≤1048576↔∀ j,j<l.length→aC l j≤1048576:=by
   unfold greatest;rw [Ho];exact ⟨fun h j hj=>h j (by omega),fun h j hj=>h j (by omega)⟩
  have hs:kX p l lo=true↔lo≤lowest l∧greatest l≤1048576:=by
   rw [jr,hlo,hhi];constructor
   ·rintro ⟨_,h⟩;exact ⟨fun j hj=>(within_iff.1 (kY 0 h hj)).1,fun j hj=>(within_iff.1 (kY 0 h hj)).2⟩
   ·rintro ⟨h2,h3⟩;exact ⟨h1,uo 0 fun j hj=>within_iff.2 ⟨h2 j hj,h3 j hj⟩⟩
  cases hq:kX p l lo
  ·rw [hq] at hs
   simp only [og,AQ] at hs
   simp only [h1,nV,nU,ne_eq,KT,AP,reduceCtorEq,uz,o9];omega
  ·rw [hq] at hs
   simp only [yM] at hs
   simp only [h1,nV,nU,ne_eq,KT,AP,reduceCtorEq,uz];omega
 ·refine .inl ⟨h1,?_⟩
  unfold kX;rw [iU h1,GU]
end Wh
