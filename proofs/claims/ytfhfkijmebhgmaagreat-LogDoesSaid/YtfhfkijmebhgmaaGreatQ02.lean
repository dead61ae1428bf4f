/- Texts of the claim, joined. -/
import Derived.Test.YtfhfkijmebhgmaaGreatQ01
set_option maxHeartbeats 20000000
set_option maxRecDepth 100000
namespace Wh
def JJ(l:List dZ):Prop:=l.Pairwise λa b=>fP a<fP b
def fine(l:List dZ):Prop:=∀h∈l,lH h=true
def sD(o ln b:Int):Prop:=(0<=o/\o<=3)/\(0<=ln/\ln<=2)/\(0<=b/\b<=5)
theorem nI{h:dZ}:lH h=true↔sD h.aC h.aG h.bin/\1<=h.n/\h.n<=200:=by
 simp only[lH,bG,dV,sD];omega
theorem YA{a b:dZ}(ha:sD a.aC a.aG a.bin)(hb:sD b.aC b.aG b.bin)(h:fP a=fP b):a.aC=b.aC/\a.aG=b.aG/\a.bin=b.bin:=by
 unfold sD at ha hb
 unfold fP at h
 omega
theorem EJ{a b:dZ}(h:a.aC=b.aC/\a.aG=b.aG/\a.bin=b.bin):fP a=fP b:=by
 unfold fP;rw[h.1,h.2.1,h.2.2]
theorem iL{l:List dZ}{k:Nat}(hk:k<l.length):hold l k=l[k]:=by simp[hold,hk]
theorem gG{l:List dZ}:iD l=true↔fine l/\JJ l:=by
 simp only[iD,aX,gZ,bG,fV,bD];constructor
 ·intro h;have FB:∀k,k+1<l.length->fP (hold l k)<fP (hold l (k+1)):=λk hk=>by
   rcases(h (k+1) hk).2 with h1|h1
   ·omega
   ·simpa using h1
  have hmono:∀d i,i+d+1<l.length->fP (hold l i)<fP (hold l (i+d+1)):=by
   intro d;induction d with
   |zero=>exact λi hi=>FB i (by omega)
   |succ d ih=>
    intro i hi;have h1:=ih i (by omega)
    have h2:=FB (i+d+1) (by omega)
    rw[show i+(d+1)+1=i+d+1+1 by omega]
    omega
  refine⟨λx hx=>?_,?_⟩
  ·obtain⟨k,hk,rfl⟩:=aV hx;rw[<- iL hk];exact(h k hk).1
  ·refine iY.2 λi j hi hj hij=>?_
   have:=hmono (j - i - 1) i (by omega)
   rw[show i+(j - i - 1)+1=j by omega,iL hi,iL hj]at this
   exact this
 ·rintro⟨h1,h2⟩ k hk;refine⟨by rw[iL hk];exact h1 _ (bU hk),?_⟩
  by_cases h0:k=0
  ·exact .inl h0
  ·refine .inr ?_
   rw[iL hk,iL (show k - 1<l.length by omega)]
   exact iY.1 h2 (k - 1) k (by omega) hk (by omega)
theorem CQ{o ln b:Int}{h:dZ}:uS o ln b h=true↔h.aC=o/\h.aG=ln/\h.bin=b:=by
 simp[uS,xJ]
theorem Df{l:List dZ}(_hf:fine l)(hr:JJ l){h:dZ}(hm:h∈l):bW l h.aC h.aG h.bin=h.n:=by
 unfold bW;cases hx:l.find? (uS h.aC h.aG h.bin)with
 |none=>
  have:=List.find?_eq_none.1 hx h hm
  simp[uS]at this
 |some x=>
  have h1:=CQ.1 (List.find?_some hx)
  have h2:=zi hx
  have h3:fP x=fP h:=EJ h1;have h4:x=h:=by
   obtain⟨i,hi,rfl⟩:=aV h2;obtain⟨j,hj,rfl⟩:=aV hm;rcases Nat.lt_trichotomy i j with h5|rfl|h5
   ·have:=iY.1 hr i j hi hj h5;omega
   ·rfl
   ·have:=iY.1 hr j i hj hi h5;omega
  rw[h4]
theorem Dc{l:List dZ}{o ln b:Int}(h:∀x∈l,¬(x.aC=o/\x.aG=ln/\x.bin=b)):bW l o ln b=0:=by
 unfold bW;cases hx:l.find? (uS o ln b)with
 |none=>rfl
 |some x=>exact absurd (CQ.1 (List.find?_some hx)) (h x (zi hx))
theorem SH{l:List dZ}(hf:fine l)(hr:JJ l)(o ln b:Int):
  (∃h∈l,h.aC=o/\h.aG=ln/\h.bin=b/\bW l o ln b=h.n)\/((∀x∈l,¬(x.aC=o/\x.aG=ln/\x.bin=b))/\bW l o ln b=0):=by
 by_cases h:∃x∈l,x.aC=o/\x.aG=ln/\x.bin=b
 ·obtain⟨x,hx,rfl,rfl,rfl⟩:=h;exact .inl ⟨x,hx,rfl,rfl,rfl,Df hf hr hx⟩
 ·refine .inr ⟨λx hx he=>h ⟨x,hx,he⟩,Dc λx hx he=>h ⟨x,hx,he⟩⟩
theorem Fv{l:List dZ}(hf:fine l)(hr:JJ l)(o ln b:Int):0<=bW l o ln b/\bW l o ln b<=200:=by
 rcases SH hf hr o ln b with⟨h,hm,_,_,_,he⟩|⟨_,he⟩
 ·have:=nI.1 (hf h hm);omega
 ·omega
theorem Dh{l:List dZ}(hf:fine l)(hr:JJ l){o ln b:Int}(h:bW l o ln b≠0):sD o ln b/\⟨o,ln,b,bW l o ln b⟩∈l:=by
 rcases SH hf hr o ln b with⟨h',hm,rfl,rfl,rfl,he⟩|⟨_,he⟩
 ·exact⟨(nI.1 (hf h' hm)).1,by rw[he];exact hm⟩
 ·exact absurd he h
theorem IZ{l:List dZ}{h x:dZ}:x∈jH l h↔(x∈l/\fP x≠fP h)\/(x=h/\h.n≠0):=by
 unfold jH;simp only[jT,kH,bD];by_cases h0:h.n=0
 ·simp only[h0,ite_true,oK,ny,ne_eq,vZ,qm,ny];constructor
  ·rintro(⟨h1,h2⟩|⟨h1,h2⟩)
   ·exact⟨h1,by omega⟩
   ·exact⟨h1,by omega⟩
  ·rintro⟨h1,h2⟩;rcases Int.lt_or_lt_of_ne h2 with h3|h3
   ·exact .inl ⟨h1,h3⟩
   ·exact .inr ⟨h1,h3⟩
 ·simp only[h0,Dp,iP,ne_eq,not_false_eq_true,mD];constructor
  ·rintro((⟨h1,h2⟩|h1)|⟨h1,h2⟩)
   ·exact .inl ⟨h1,by omega⟩
   ·exact .inr h1
   ·exact .inl ⟨h1,by omega⟩
  ·rintro(⟨h1,h2⟩|h1)
   ·rcases Int.lt_or_lt_of_ne h2 with h3|h3
    ·exact .inl (.inl ⟨h1,h3⟩)
    ·exact .inr ⟨h1,h3⟩
   ·exact .inl (.inr h1)
theorem jc9{l:List dZ}{h:dZ}(hr:JJ l):JJ (jH l h):=by
 unfold jH JJ;rw[lD,lD];refine⟨⟨hr.filter _,?_,?_⟩,hr.filter _,?_⟩
 ·split<;>simp
 ·intro a ha b hb;simp only[kH,bD]at ha
  split at hb
  ·simp at hb
  ·obtain rfl:=iP.1 hb;exact ha.2
 ·intro a ha b hb;simp only[kH,bD]at hb
  rcases jT.1 ha with ha|ha
  ·simp only[kH,bD]at ha
   omega
  ·split at ha
   ·simp at ha
   ·obtain rfl:=iP.1 ha;exact hb.2
theorem UJ{l:List dZ}{h:dZ}(hl:iD l=true)(hk:sD h.aC h.aG h.bin)(hn:0<=h.n/\h.n<=200):iD (jH l h)=true:=by
 rw[gG]at hl ⊢
 refine⟨λx hx=>?_,jc9 hl.2⟩
 rcases IZ.1 hx with⟨h1,_⟩|⟨rfl,h1⟩
 ·exact hl.1 x h1
 ·exact nI.2 ⟨hk,by omega,hn.2⟩
theorem ER{l:List dZ}{h:dZ}(hl:iD l=true)(hk:sD h.aC h.aG h.bin)(hn:0<=h.n/\h.n<=200)(o ln b:Int):
  bW (jH l h) o ln b=if h.aC=o/\h.aG=ln/\h.bin=b then h.n else bW l o ln b:=by
 have hw:=UJ hl hk hn;rw[gG]at hw hl
 split
 ·rename_i he
  obtain⟨rfl,rfl,rfl⟩:=he;by_cases h0:h.n=0
  ·rw[h0];refine Dc λx hx he=>?_
   rcases IZ.1 hx with⟨_,h2⟩|⟨_,h2⟩
   ·exact h2 (EJ he)
   ·exact h2 h0
  ·exact Df hw.1 hw.2 (IZ.2 (.inr ⟨rfl,h0⟩))
 ·rename_i he
  rcases SH hl.1 hl.2 o ln b with⟨x,hx,rfl,rfl,rfl,e⟩|⟨h1,e⟩
  ·rw[e];refine Df hw.1 hw.2 (IZ.2 (.inl ⟨hx,λhp=>?_⟩))
   have:=YA (nI.1 (hl.1 x hx)).1 hk hp;exact he ⟨this.1.symm,this.2.1.symm,this.2.2.symm⟩
  ·rw[e];refine Dc λx hx hxe=>?_
   rcases IZ.1 hx with⟨h2,_⟩|⟨rfl,_⟩
   ·exact h1 x h2 hxe
   ·exact he hxe
theorem Gj{l:List dZ}(hl:iD l=true)(o ln:Int):kept l o ln=nH (λb=>bW l o ln b) 6:=by
 have key:∀l:List dZ,fine l->JJ l->kept l o ln=nH (λb=>bW l o ln b) 6:=by
  intro l;induction l with
  |nil=>intro _ _;simp[kept,bW,nH]
  |cons x l ih=>
   intro hf hr;have hf':fine l:=λh hm=>hf h (bP _ hm)
   have hr':=rJ.1 hr;have ih':=ih hf' hr'.2;have hx:=nI.1 (hf x (dS ..));have hcons:∀b,bW (x::l) o ln b=if x.aC=o/\x.aG=ln/\x.bin=b then x.n else bW l o ln b:=by
    intro b;unfold bW;rw[AA]
    by_cases hk:x.aC=o/\x.aG=ln/\x.bin=b
    ·rw[aB hk,CQ.2 hk]
    ·rw[ay hk,show uS o ln b x=false by rw[<- nM,CQ];exact hk]
   by_cases hs:x.aC=o/\x.aG=ln
   ·have h0:bW l o ln x.bin=0:=Dc λy hy he=>by
     have h1:=hr'.1 y hy;rw[EJ ⟨hs.1.trans he.1.symm,hs.2.trans he.2.1.symm,he.2.2.symm⟩]at h1
     omega
    have hk1:kept (x::l) o ln=kept l o ln+x.n:=by
     unfold kept;rw[jr (by simp[Bz,hs.1,hs.2])]
     simp[Int.add_comm]
    rw[hk1,ih'];refine(EH (f:=λb=>bW l o ln b) (g:=λb=>bW (x::l) o ln b) (i:=x.bin.toNat) (d:=x.n) ?_ ?_ ?_).symm
    ·have:=hx.1.2.2;omega
    ·intro b _ hb;show bW (x::l) o ln b=bW l o ln b;rw[hcons,ay (by have:=hx.1.2.2;omega)]
    ·have hb:=hx.1.2.2;show bW (x::l) o ln (x.bin.toNat:Int)=bW l o ln (x.bin.toNat:Int)+x.n;rw[Int.toNat_of_nonneg hb.1,hcons,aB ⟨hs.1,hs.2,rfl⟩,h0];omega
   ·have hk1:kept (x::l) o ln=kept l o ln:=by
     unfold kept;rw[lF (by simp[Bz];exact λh=>λh'=>hs ⟨h,h'⟩)]
    rw[hk1,ih'];refine zo λb _=>?_
    show _=bW (x::l) o ln b;rw[hcons,ay (λhe=>hs ⟨he.1,he.2.1⟩)]
 rw[gG]at hl
 exact key l hl.1 hl.2
theorem YP{l:List dZ}{h:dZ}(hl:iD l=true)(hk:sD h.aC h.aG h.bin)(hn:0<=h.n/\h.n<=200)(o ln:Int):
  kept (jH l h) o ln=kept l o ln+if h.aC=o/\h.aG=ln then h.n - bW l h.aC h.aG h.bin else 0:=by
 rw[Gj (UJ hl hk hn),Gj hl];by_cases hs:h.aC=o/\h.aG=ln
 ·rw[aB hs];obtain⟨rfl,rfl⟩:=hs;refine EH (i:=h.bin.toNat) (by have:=hk.2.2;omega) (λb _ hb=>?_) ?_
  ·show bW (jH l h) _ _ _=_;rw[ER hl hk hn,ay (by have:=hk.2.2;omega)]
  ·show bW (jH l h) _ _ _=_;rw[ER hl hk hn,aB ⟨rfl,rfl,by have:=hk.2.2;omega⟩]
   rw[show((h.bin.toNat:Nat):Int)=h.bin by have:=hk.2.2;omega]
   omega
 ·rw[ay hs,jC];refine zo λb _=>?_
  show bW (jH l h) _ _ _=_;rw[ER hl hk hn,ay (λhe=>hs ⟨he.1,he.2.1⟩)]
theorem vK{l:List dZ}(hl:iD l=true)(o ln:Int):0<=kept l o ln/\kept l o ln<=1200:=by
 rw[Gj hl];rw[gG]at hl
 have:=Du (f:=λb=>bW l o ln b) (n:=6) (m:=200) λb _=>Fv hl.1 hl.2 o ln b
 omega
def Tq(a b:Int):Int:=if a<b then -1 else if b<a then 1 else 0
def ord(a b:dZ):Int:=
 if Tq a.aC b.aC≠0 then Tq a.aC b.aC else if Tq a.aG b.aG≠0 then Tq a.aG b.aG else Tq a.bin b.bin
theorem MQ(a b:Int):(a<b/\Tq a b= -1)\/(b<a/\Tq a b=1)\/(a=b/\Tq a b=0):=by
 unfold Tq;rcases wz a b with h|h|h
 ·exact .inl ⟨h,aB h⟩
 ·exact .inr (.inr ⟨h,by rw[ay (by omega),ay (by omega)]⟩)
 ·exact .inr (.inl ⟨h,by rw[ay (by omega),aB h]⟩)
theorem IG(a b:dZ):(ord a b= -1/\(a.aC<b.aC\/a.aC=b.aC/\(a.aG<b.aG\/a.aG=b.aG/\a.bin<b.bin)))\/
  (ord a b=1/\(b.aC<a.aC\/a.aC=b.aC/\(b.aG<a.aG\/a.aG=b.aG/\b.bin<a.bin)))\/(ord a b=0/\a.aC=b.aC/\a.aG=b.aG/\a.bin=b.bin):=by
 unfold ord;rcases MQ a.aC b.aC with⟨h1,e1⟩|⟨h1,e1⟩|⟨h1,e1⟩<;>rcases MQ a.aG b.aG with⟨h2,e2⟩|⟨h2,e2⟩|⟨h2,e2⟩<;>
  rcases MQ a.bin b.bin with⟨h3,e3⟩|⟨h3,e3⟩|⟨h3,e3⟩<;>simp only[e1,e2,e3]<;>simp<;>omega
theorem UQ{a b:dZ}:ord a b<0↔(a.aC<b.aC\/a.aC=b.aC/\(a.aG<b.aG\/a.aG=b.aG/\a.bin<b.bin)):=by
 rcases IG a b with⟨h,h'⟩|⟨h,h'⟩|⟨h,h'⟩<;>rw[h]<;>omega
theorem G6{a b:dZ}:ord a b=0↔(a.aC=b.aC/\a.aG=b.aG/\a.bin=b.bin):=by
 rcases IG a b with⟨h,h'⟩|⟨h,h'⟩|⟨h,h'⟩<;>rw[h]<;>omega
theorem O1{a b:dZ}(ha:sD a.aC a.aG a.bin)(hb:sD b.aC b.aG b.bin):ord a b<0↔fP a<fP b:=by
 rw[UQ];unfold sD at ha hb
 unfold fP;omega
theorem jdx{a b:dZ}(ha:sD a.aC a.aG a.bin)(hb:sD b.aC b.aG b.bin):ord a b=0↔fP a=fP b:=by
 rw[G6];unfold sD at ha hb
 unfold fP;omega
def pos(l:List dZ)(h:dZ):Nat:=(l.takeWhile λx=>decide (ord x h<0)).length
def zN(l:List dZ)(h:dZ):Bool:=decide (pos l h<l.length)&&decide (ord (hold l (pos l h)) h=0)
theorem KH{α:Type}(p:α->Bool):∀(l:List α) (k:Nat),k<=l.length->(∀i (hi:i<l.length),i<k->p l[i]=true)->(∀(hk:k<l.length),p l[k]=false)->(l.takeWhile p).length=k
 |[],k,hk,_,_=>by simp at hk;simp[hk]
 |x::l,0,_,_,h2=>by
  have:=h2 (by simp)
  simp at this
  simp[this]
 |x::l,k+1,hk,h1,h2=>by
  have h0:=h1 0 (by simp) (by omega)
  simp at h0
  rw[xR,h0,aB rfl,dw,KH p l k (by simpa using hk) (λi hi hik=>h1 (i+1) (by simpa using hi) (by omega)) (λhk'=>h2 (by simpa using hk'))]
theorem Nv{α:Type}(p:α->Bool):∀(l:List α),(l.takeWhile p).length<=l.length/\(∀i (hi:i<l.length),i<(l.takeWhile p).length->p l[i]=true)/\∀(hk:(l.takeWhile p).length<l.length),p l[(l.takeWhile p).length]=false
 |[]=>by simp
 |x::l=>by
  obtain⟨h1,h2,h3⟩:=Nv p l;by_cases hx:p x=true
  ·have e:(x::l).takeWhile p=x::l.takeWhile p:=by rw[xR,aB hx]
   rw[e];refine⟨by simpa using h1,λi hi hik=>?_,λhk=>?_⟩
   ·cases i with
    |zero=>simpa using hx
    |succ i=>simpa using h2 i (by simpa using hi) (by simpa using hik)
   ·have:=h3 (by simpa using hk)
    simpa using this
  ·have e:(x::l).takeWhile p=[]:=by rw[xR,ay hx]
   rw[e];exact⟨by simp,λi hi hik=>by simp at hik,λhk=>by simpa using hx⟩
theorem pos_eq{l:List dZ}{h:dZ}{k:Nat}(hk:k<=l.length)(h1:∀i,i<k->ord (hold l i) h<0)(h2:k<l.length->0<=ord (hold l k) h):pos l h=k:=
 KH _ l k hk (λi hi hik=>by have:=h1 i hik;rw[iL hi]at this;simpa using this) (λhk'=>by have:=h2 hk';rw[iL hk']at this;simpa using this)
theorem Q8(l:List dZ)(h:dZ):pos l h<=l.length/\(∀i,i<pos l h->ord (hold l i) h<0)/\(pos l h<l.length->0<=ord (hold l (pos l h)) h):=by
 obtain⟨h1,h2,h3⟩:=Nv (λx=>decide (ord x h<0)) l
 refine⟨h1,λi hi=>?_,λhk=>?_⟩
 ·have:=h2 i (aI hi h1) hi;rw[iL (aI hi h1)];simpa using this
 ·have:=h3 hk;rw[iL hk];exact Int.not_lt.1 (of_decide_eq_false this)
theorem jlU{l:List dZ}(h:iD l=true){i:Nat}(hi:i<l.length):lH (hold l i)=true:=by
 rw[iL hi];exact(gG.1 h).1 _ (bU hi)
theorem Hy{l:List dZ}(h:iD l=true){i:Nat}(hi:i<l.length):sD (hold l i).aC (hold l i).aG (hold l i).bin:=(nI.1 (jlU h hi)).1
theorem jfS{l:List dZ}(h:iD l=true){i:Nat}(hi:i<l.length):1<=(hold l i).n/\(hold l i).n<=200:=(nI.1 (jlU h hi)).2
theorem jbo{l:List dZ}(h:iD l=true){i j:Nat}(hij:i<j)(hj:j<l.length):ord (hold l i) (hold l j)<0:=by
 rw[O1 (Hy h (by omega)) (Hy h hj),iL hj,iL (show i<l.length by omega)]
 exact iY.1 (gG.1 h).2 i j (by omega) hj hij
theorem YE{a b c:dZ}(h1:ord a b<0)(h2:ord b c<=0):ord a c<0:=by
 rw[UQ]at*
 rcases IG b c with⟨h,h'⟩|⟨h,h'⟩|⟨h,h'⟩<;>omega
theorem jeX{l:List dZ}(h:iD l=true){x:dZ}{i j:Nat}(hij:i<=j)(hj:j<l.length)(hx:ord (hold l j) x<0):ord (hold l i) x<0:=by
 rcases pF hij with h1|rfl
 ·exact YE (jbo h h1 hj) (by omega)
 ·exact hx
theorem yV{l:List dZ}{h:dZ}:zN l h=true↔pos l h<l.length/\ord (hold l (pos l h)) h=0:=by
 unfold zN;simp
theorem QI{l:List dZ}(hl:iD l=true){h:dZ}(hf:zN l h=true):bW l h.aC h.aG h.bin=(hold l (pos l h)).n:=by
 obtain⟨h1,h2⟩:=yV.1 hf;obtain⟨e1,e2,e3⟩:=G6.1 h2;obtain⟨g1,g2⟩:=gG.1 hl;rw[<- e1,<- e2,<- e3];exact Df g1 g2 (by rw[iL h1];exact bU h1)
theorem PO{l:List dZ}(hl:iD l=true){h:dZ}(hf:zN l h=false):bW l h.aC h.aG h.bin=0:=by
 refine Dc λx hx hk=>?_
 obtain⟨i,hi,rfl⟩:=aV hx;have h0:ord (hold l i) h=0:=by rw[iL hi];exact G6.2 hk
 obtain⟨p1,p2,p3⟩:=Q8 l h;have hip:pos l h<=i:=qK λhn=>by have:=p2 i hn;omega
 have hp:pos l h=i:=by
  rcases pF hip with h1|h1
  ·have:=YE (jbo hl h1 hi) (by omega:ord (hold l i) h<=0)
   have:=p3 (by omega)
   omega
  ·exact h1
 have:zN l h=true:=yV.2 ⟨by omega,by rw[hp];exact h0⟩
 rw[hf]at this
 cases this
theorem filter_lt{l:List dZ}(hl:iD l=true){h:dZ}(hk:sD h.aC h.aG h.bin):l.filter (λx=>decide (fP x<fP h))=l.take (pos l h):=by
 obtain⟨p1,p2,p3⟩:=Q8 l h;have key:∀i (hi:i<l.length),(fP l[i]<fP h↔i<pos l h):=λi hi=>by
  have hki:=Hy hl hi;rw[iL hi]at hki
  rw[<- O1 hki hk,<- iL hi];constructor
  ·intro hlt;exact Nat.lt_of_not_le λhn=>by have:=jeX hl hn hi hlt;have:=p3 (by omega);omega
  ·exact p2 i
 conv=>lhs;rw[<- mF (pos l h) l]
 rw[jI,oO.2,rU.2,iJ]
 ·intro x hx;obtain⟨i,hi,rfl⟩:=aV hx;rw[List.getElem_drop];rw[fQ]at hi
  simp only[bD];intro hc;have:=(key (pos l h+i) (by omega)).1 hc
  omega
 ·intro x hx;obtain⟨i,hi,rfl⟩:=aV hx;rw[wu];rw[bT]at hi
  simp only[bD];exact(key i (by omega)).2 (by omega)
theorem Ti{l:List dZ}(hl:iD l=true){h:dZ}(hk:sD h.aC h.aG h.bin):
  l.filter (λx=>decide (fP h<fP x))=l.drop (if zN l h then pos l h+1 else pos l h):=by
 obtain⟨p1,p2,p3⟩:=Q8 l h;have key:∀i (hi:i<l.length),(fP h<fP l[i]↔(if zN l h then pos l h+1 else pos l h)<=i):=λi hi=>by
  have hki:=Hy hl hi;have a1:=O1 hki hk;have a2:=jdx hki hk;rw[<- iL hi];have e:fP h<fP (hold l i)↔0<ord (hold l i) h:=by omega
  rw[e];constructor
  ·intro hlt;have hge:pos l h<=i:=qK λhn=>by have:=p2 i hn;omega
   split
   ·rename_i hf
    obtain⟨f1,f2⟩:=yV.1 hf;rcases pF hge with h1|h1
    ·omega
    ·rw[<- h1]at hlt;omega
   ·exact hge
  ·intro hge;split at hge
   ·rename_i hf
    obtain⟨f1,f2⟩:=yV.1 hf;have h1:=jbo hl (show pos l h<i by omega) hi
    rw[G6]at f2
    rw[UQ]at h1
    rcases IG (hold l i) h with⟨h,h'⟩|⟨h,h'⟩|⟨h,h'⟩<;>omega
   ·rename_i hf
    have hp3:=p3 (by omega)
    have hnz:ord (hold l (pos l h)) h≠0:=λh0=>hf (yV.2 ⟨by omega,h0⟩)
    rcases pF hge with h1|h1
    ·have h2:=jbo hl h1 hi;rw[UQ]at h2
     rcases IG (hold l (pos l h)) h with⟨q,q'⟩|⟨q,q'⟩|⟨q,q'⟩<;>rcases IG (hold l i) h with⟨g,g'⟩|⟨g,g'⟩|⟨g,g'⟩<;>omega
    ·rw[<- h1];omega
 generalize (if zN l h then pos l h+1 else pos l h)=q at key ⊢
 conv=>lhs;rw[<- mF q l]
 rw[jI,rU.2,oO.2,iy]
 ·intro x hx;obtain⟨i,hi,rfl⟩:=aV hx;rw[List.getElem_drop];rw[fQ]at hi
  simp only[bD];exact(key (q+i) (by omega)).2 (by omega)
 ·intro x hx;obtain⟨i,hi,rfl⟩:=aV hx;rw[wu];rw[bT]at hi
  simp only[bD];intro hc;have:=(key i (by omega)).1 hc
  omega
theorem jgQ{l:List dZ}(hl:iD l=true){h:dZ}(hk:sD h.aC h.aG h.bin)(hn:h.n≠0)(hf:zN l h=false):jH l h=l.take (pos l h)++h::l.drop (pos l h):=by
 unfold jH;rw[filter_lt hl hk,Ti hl hk,hf,ay hn];simp
theorem jhB(l:List dZ)(h:dZ)(n:Int):pos l {h with n:=n}=pos l h:=rfl
theorem jan(l:List dZ)(h:dZ)(n:Int):zN l {h with n:=n}=zN l h:=rfl
theorem Yj{l:List dZ}(hl:iD l=true){h:dZ}(hk:sD h.aC h.aG h.bin)(hn:h.n≠0)(hf:zN l h=true):jH l h=l.set (pos l h) h:=by
 unfold jH;obtain⟨f1,f2⟩:=yV.1 hf;rw[filter_lt hl hk,Ti hl hk,hf,ay hn,uX,aB f1];simp
theorem Yk{l:List dZ}(hl:iD l=true){h:dZ}(hk:sD h.aC h.aG h.bin)(hn:h.n=0)(hf:zN l h=true):jH l h=l.eraseIdx (pos l h):=by
 unfold jH;rw[filter_lt hl hk,Ti hl hk,hf,aB hn,nT];simp
theorem jgo{l:List dZ}(hl:iD l=true){h:dZ}(hf:zN l h=true):sD h.aC h.aG h.bin:=by
 obtain⟨f1,f2⟩:=yV.1 hf;obtain⟨e1,e2,e3⟩:=G6.1 f2;rw[<- e1,<- e2,<- e3];exact Hy hl f1
def xg(l:List dZ)(h:dZ)(k:Nat):Bool:=decide (h.n=0)||(l.take k).any λx=>decide (fP h<=fP x)
def rD(l:List dZ)(h:dZ)(k:Nat):List dZ:=
 (l.take k).filter (λx=>decide (fP x<fP h))++(if xg l h k=true/\h.n≠0 then [h]else [])++(l.take k).filter (λx=>decide (fP h<fP x))
theorem OT{l:List dZ}{k:Nat}(hk:k<l.length):l.take (k+1)=l.take k++[hold l k]:=by
 rw[dO hk,iL hk]
theorem Zi{l:List dZ}(hr:JJ l){k:Nat}(hk:k<l.length):∀x∈l.take k,fP x<fP (hold l k):=by
 intro x hx;obtain⟨i,hi,rfl⟩:=aV hx;rw[bT]at hi
 rw[wu,iL hk];exact iY.1 hr i k (by omega) hk (by omega)
theorem TG(l:List dZ)(h:dZ):rD l h 0=[]/\xg l h 0=decide (h.n=0):=by
 unfold rD xg;simp
theorem jjR{l:List dZ}{h:dZ}(hb:∀x∈l,fP x<fP h):(l.any λx=>decide (fP h<=fP x))=false:=by
 rw[qp];intro x hx;have:=hb x hx;simp only[bD];omega
theorem TW{l:List dZ}{h:dZ}(hb:∀x∈l,fP x<fP h):l.filter (λx=>decide (fP h<fP x))=[]:=by
 rw[rU];intro x hx;have:=hb x hx;simp only[bD];omega
theorem Nu{l:List dZ}{h:dZ}(hr:JJ l){k:Nat}(hk:k<l.length)(hp:fP (hold l k)<fP h):rD l h (k+1)=rD l h k++[hold l k]/\xg l h (k+1)=xg l h k:=by
 have hb:∀x∈l.take k,fP x<fP h:=λx hx=>Int.lt_trans (Zi hr hk x hx) hp
 have hd:xg l h (k+1)=xg l h k:=by
  unfold xg;rw[OT hk,List.any_append,jjR hb];simp;omega
 refine⟨?_,hd⟩
 have hd0:xg l h k=decide (h.n=0):=by
  unfold xg;rw[jjR hb,Bool.or_false]
 have hno:¬(xg l h k=true/\h.n≠0):=by
  rw[hd0];simp
 unfold rD;rw[hd,OT hk,jI,jI,TW hb,ay hno,lq,aB (by simpa using hp),lq,ay (by simp;omega)]
 simp
theorem RN{l:List dZ}{h:dZ}{k:Nat}(hk:k<l.length)(hp:fP h<=fP (hold l k)):xg l h (k+1)=true:=by
 unfold xg;rw[OT hk,List.any_append];simp[hp]
theorem MI{l:List dZ}{h:dZ}{k:Nat}(hk:k<l.length)(hp:fP h<=fP (hold l k)):
  rD l h (k+1)=(l.take k).filter (λx=>decide (fP x<fP h))++(if h.n≠0 then [h]else [])++((l.take k).filter (λx=>decide (fP h<fP x))++if fP h<fP (hold l k)then [hold l k]else []):=by
 unfold rD;rw[RN hk hp,OT hk,jI,jI,lq,ay (by simp;omega),lq]
 simp
theorem ZL{l:List dZ}{h:dZ}{k:Nat}(hd:xg l h k=false):h.n≠0/\∀x∈l.take k,fP x<fP h:=by
 unfold xg at hd
 simp only[Bool.or_eq_false_iff,decide_eq_false_iff_not,qp,bD]at hd
 exact⟨hd.1,λx hx=>by have:=hd.2 x hx;omega⟩
theorem jaS{l:List dZ}{h:dZ}{k:Nat}(hk:k<l.length)(hp:fP (hold l k)=fP h)(hd:xg l h k=false):rD l h (k+1)=rD l h k++[h]:=by
 obtain⟨hn,hb⟩:=ZL hd;rw[MI hk (by omega),TW hb,aB hn,ay (by omega)]
 unfold rD;rw[hd,TW hb];simp
theorem jaR{l:List dZ}{h:dZ}(hr:JJ l){k:Nat}(hk:k<l.length)(hp:fP (hold l k)=fP h)(hd:xg l h k=true):rD l h (k+1)=rD l h k:=by
 have hb:∀x∈l.take k,fP x<fP h:=λx hx=>by have:=Zi hr hk x hx;omega
 rw[MI hk (by omega),TW hb,ay (show ¬fP h<fP (hold l k)by omega)]
 unfold rD;rw[hd,TW hb];simp
theorem XD{l:List dZ}{h:dZ}{k:Nat}(hk:k<l.length)(hp:fP h<fP (hold l k))(hd:xg l h k=false):rD l h (k+1)=(rD l h k++[h])++[hold l k]:=by
 obtain⟨hn,hb⟩:=ZL hd;rw[MI hk (by omega),TW hb,aB hn,aB hp]
 unfold rD;rw[hd,TW hb];simp
theorem XC{l:List dZ}{h:dZ}{k:Nat}(hk:k<l.length)(hp:fP h<fP (hold l k))(hd:xg l h k=true):rD l h (k+1)=rD l h k++[hold l k]:=by
 rw[MI hk (by omega),aB hp]
 unfold rD;rw[hd];simp
theorem Zn{l:List dZ}{h:dZ}(hd:xg l h l.length=true):jH l h=rD l h l.length:=by
 unfold jH rD;rw[hd,fG];by_cases hn:h.n=0<;>simp[hn]
theorem Zo{l:List dZ}{h:dZ}(hd:xg l h l.length=false):jH l h=rD l h l.length++[h]:=by
 obtain⟨hn,hb⟩:=ZL hd;rw[fG]at hb
 unfold jH rD;rw[hd,fG,TW hb,ay hn];simp
theorem PK(l:List dZ)(h:dZ)(k:Nat):(rD l h k).length<=2*l.length+1:=by
 unfold rD;have h1:=kY (λx=>decide (fP x<fP h)) (l.take k)
 have h2:=kY (λx=>decide (fP h<fP x)) (l.take k)
 have h3:=xU k l;have h4:(l.take k).length<=l.length:=by rw[bT];omega
 simp only[aZ];split<;>simp<;>omega
theorem su{l:List dZ}(h:iD l=true):l.length<=72:=by
 have hr:=(gG.1 h).2;have hf:=(gG.1 h).1;have hp:∀x∈l,0<=fP x/\fP x<72:=λx hx=>by
  have:=(nI.1 (hf x hx)).1;unfold sD at this
  unfold fP;omega
 have hn:(l.map λx=>(fP x).toNat).Nodup:=by
  rw[List.Nodup,nY];refine qN ?_ hr
  intro a b ha hb hab;have h1:=hp a ha;have h2:=hp b hb;omega
 have hs:(l.map λx=>(fP x).toNat) ⊆ List.range 72:=λn hn'=>by
  obtain⟨x,hx,rfl⟩:=kV.1 hn';have:=hp x hx;exact gZ.2 (by omega)
 have:=hn.length_le_of_subset hs;simpa using this
structure o9(p:dA)(s:aJ):Prop where
 shelf:iO p s.on=0
 many:Jd s=true
 form:oQ p s=true
theorem uP{α:Type}{P:α->Bool}{l:List α}(d:α)(h:l.all P=true){k:Nat}(hk:k<l.length):P (l.getD k d)=true:=by
 have e:l.getD k d=l[k]:=by simp[hk]
 rw[e];exact aX.1 h _ (bU hk)
theorem D7{α:Type}{P:α->Bool}{l:List α}(d:α)(h:∀k,k<l.length->P (l.getD k d)=true):l.all P=true:=by
 rw[aX];intro x hx;obtain⟨k,hk,rfl⟩:=aV hx;have:=h k hk;have e:l.getD k d=l[k]:=by simp[hk]
 rwa [e]at this
theorem joD{α:Type}{P:α->Bool}{l:List α}(d:α){k:Nat}(hk:k<l.length)(h:P (l.getD k d)=false):l.all P=false:=by
 cases ha:l.all P
 ·rfl
 ·rw[uP d ha hk]at h;cases h
theorem FP{α:Type}(P:α->Bool)(l:List α):(l.any λx=>!P x)= !(l.all P):=by
 induction l with
 |nil=>rfl
 |cons x l ih=>rw[zk,zl,ih,DX]
theorem CX{s:aJ}:Jd s=true↔s.ak.length<=4/\s.aF.length<=8/\s.ak.all (λo=>cZ o.aH.length 1 3)=true:=by
 unfold Jd;simp only[bG,bD,xJ]
theorem dR{p:dA}{s:aJ}:oQ p s=true↔s.ak.all (wW p)=true/\iD s.aA=true/\s.aA.all (yQ p s)=true/\s.aF.all (sO p)=true/\
  uN p s.gY 0=true/\uN p s.O 0=true/\uN p s.bg (-1048576)=true:=by
 unfold oQ;simp only[bG,xJ]
theorem rP{p:dA}{x:Line}:tV p x=true↔(0<=x.dh/\x.dh<p.aP.length)/\(1<=x.iw/\x.iw<=200)/\(0<=x.oh/\x.oh<=x.iw)/\(0<=x.dP/\x.dP<=x.iw):=by
 unfold tV;simp only[bG,dV,vN,xJ]
theorem Gh{p:dA}{x:Move}:sO p x=true↔(0<=x.dh/\x.dh<p.aP.length)/\(0<=x.src/\x.src<p.bQ.length)/\(0<=x.dst/\x.dst<p.bQ.length)/\x.src≠x.dst/\1<=x.n/\x.n<=200:=by
 unfold sO;simp only[bG,dV,vN,yT,xJ,bD]
theorem EM{p:dA}{o:Order}:wW p o=true↔(0<=o.dW/\o.dW<=2)/\o.aH.all (tV p)=true:=by
 unfold wW;simp only[bG,dV]
theorem qU{p:dA}{l:List Int}{lo:Int}:uN p l lo=true↔l.length=p.aP.length/\l.all (cZ · lo 1048576)=true:=by
 unfold uN;simp only[bG,bD]
theorem nZ{p:dA}{s:aJ}{h:dZ}:yQ p s h=true↔h.aC<s.ak.length/\h.aG<(s.aC h.aC.toNat).aH.length/\h.bin<p.bQ.length:=by
 unfold yQ;simp only[bG,bD,xJ]
namespace o9
variable {p:dA} {s:aJ} (h:o9 p s)
include h
theorem plan:gQ p=0:=(jZ.1 h.shelf).1
theorem qH:s.ak.length<=4:=(CX.1 h.many).1
theorem vJ:s.aF.length<=8:=(CX.1 h.many).2.1
theorem tN{o:Nat}(ho:o<s.ak.length):1<=(s.aC o).aH.length/\(s.aC o).aH.length<=3:=by
 have:=uP Gw (CX.1 h.many).2.2 ho;have:=dV.1 this;unfold aJ.aC aU;omega
theorem wW{o:Nat}(ho:o<s.ak.length):Wh.wW p (s.aC o)=true:=uP Gw (dR.1 h.form).1 ho
theorem dW{o:Nat}(ho:o<s.ak.length):0<=(s.aC o).dW/\(s.aC o).dW<=2:=(EM.1 (h.wW ho)).1
theorem aG{o k:Nat}(ho:o<s.ak.length)(hk:k<(s.aC o).aH.length):
  (0<=(s.aG o k).dh/\(s.aG o k).dh<p.aP.length)/\(1<=(s.aG o k).iw/\(s.aG o k).iw<=200)/\(0<=(s.aG o k).oh/\(s.aG o k).oh<=(s.aG o k).iw)/\(0<=(s.aG o k).dP/\(s.aG o k).dP<=(s.aG o k).iw):=
 rP.1 (uP Lc (EM.1 (h.wW ho)).2 hk)
theorem aA:iD s.aA=true:=(dR.1 h.form).2.1
theorem yR{k:Nat}(hk:k<s.aA.length):(0<=(hold s.aA k).aC/\(hold s.aA k).aC<s.ak.length)/\(0<=(hold s.aA k).aG/\(hold s.aA k).aG<(s.aC (hold s.aA k).aC.toNat).aH.length)/\
  (0<=(hold s.aA k).bin/\(hold s.aA k).bin<p.bQ.length)/\(1<=(hold s.aA k).n/\(hold s.aA k).n<=200):=by
 have h1:=Hy h.aA hk;have h2:=jfS h.aA hk;have h3:=nZ.1 (uP Xb (dR.1 h.form).2.2.1 hk);unfold sD at h1
 change(hold s.aA k).aC<_/\_ at h3
 obtain⟨a,b,c⟩:=h3;exact⟨⟨h1.1.1,a⟩,⟨h1.2.1.1,b⟩,⟨h1.2.2.1,c⟩,h2⟩
theorem bH{k:Nat}(hk:k<s.aF.length):(0<=(bH s.aF k).dh/\(bH s.aF k).dh<p.aP.length)/\(0<=(Wh.bH s.aF k).src/\(Wh.bH s.aF k).src<p.bQ.length)/\
  (0<=(Wh.bH s.aF k).dst/\(Wh.bH s.aF k).dst<p.bQ.length)/\(Wh.bH s.aF k).src≠(Wh.bH s.aF k).dst/\1<=(Wh.bH s.aF k).n/\(Wh.bH s.aF k).n<=200:=
 Gh.1 (uP Ox (dR.1 h.form).2.2.2.1 hk)
theorem gY:s.gY.length=p.aP.length/\∀ {g},g<p.aP.length->0<=bI s.gY g/\bI s.gY g<=1048576:=by
 obtain⟨h1,h2⟩:=qU.1 (dR.1 h.form).2.2.2.2.1;exact⟨h1,λhg=>dV.1 (uP 0 h2 (by omega))⟩
theorem O:s.O.length=p.aP.length/\∀ {g},g<p.aP.length->0<=bI s.O g/\bI s.O g<=1048576:=by
 obtain⟨h1,h2⟩:=qU.1 (dR.1 h.form).2.2.2.2.2.1;exact⟨h1,λhg=>dV.1 (uP 0 h2 (by omega))⟩
theorem bg:s.bg.length=p.aP.length/\∀ {g},g<p.aP.length-> -1048576<=bI s.bg g/\bI s.bg g<=1048576:=by
 obtain⟨h1,h2⟩:=qU.1 (dR.1 h.form).2.2.2.2.2.2;exact⟨h1,λhg=>dV.1 (uP 0 h2 (by omega))⟩
theorem tY:s.on.length=p.bQ.length:=OW h.shelf
theorem rowLen{b:Nat}(hb:b<p.bQ.length):(fO s.on b).length=p.aP.length:=OV h.shelf (by rw[h.tY];exact hb)
theorem cell{b g:Nat}(hb:b<p.bQ.length)(hg:g<p.aP.length):0<=cell s.on b g/\Wh.cell s.on b g<=200:=Gf h.shelf (by rw[h.tY];exact hb) hg
theorem counts:1<=p.bQ.length/\p.bQ.length<=6/\1<=p.aP.length/\p.aP.length<=3:=pJ h.plan
end o9
theorem Ll{p:dA}{s:aJ}(h:iO p s.on≠0):aQ p s=iO p s.on:=by unfold aQ;rw[aB h]
theorem yZ{p:dA}{s:aJ}(h:iO p s.on=0)(h2:Jd s=false):aQ p s=2:=by
 unfold aQ;rw[ay (λhn=>hn h),h2];rfl
theorem Nc{p:dA}{s:aJ}(h:iO p s.on=0)(h2:Jd s=true)(h3:oQ p s=false):aQ p s=1:=by
 unfold aQ;rw[ay (λhn=>hn h),h2,h3];rfl
theorem OC{p:dA}{s:aJ}(h:o9 p s)(h4:Eu p s=false):aQ p s=7:=by
 unfold aQ;rw[ay (λhn=>hn h.shelf),h.many,h.form,h4];rfl
theorem KF{p:dA}{s:aJ}(h:o9 p s)(h4:Eu p s=true):aQ p s=0:=by
 unfold aQ;rw[ay (λhn=>hn h.shelf),h.many,h.form,h4];rfl
theorem kM{p:dA}{s:aJ}:aQ p s=0↔o9 p s/\Eu p s=true:=by
 constructor
 ·intro h;unfold aQ at h
  split at h
  ·rename_i h1;exact absurd h h1
  ·rename_i h1
   cases h2:Jd s
   ·rw[h2]at h;simp at h
   ·cases h3:oQ p s
    ·rw[h2,h3]at h;simp at h
    ·cases h4:Eu p s
     ·rw[h2,h3,h4]at h;simp at h
     ·exact⟨⟨by simpa using h1,h2,h3⟩,rfl⟩
 ·rintro⟨h,h4⟩;exact KF h h4
def MC(s:aJ)(b g:Int)(k:Nat):Int:=((s.aA.take k).map (wX s b g)).sum
def FD(l:List Move)(b g:Int)(k:Nat):Int:=((l.take k).map (Aj b g)).sum
def FI(l:List Move)(b g:Int)(k:Nat):Int:=((l.take k).map (toN b g)).sum
theorem Vg{α:Type}(f:α->Int)(l:List α)(d:α){k:Nat}(hk:k<l.length):((l.take (k+1)).map f).sum=((l.take k).map f).sum+f (l.getD k d):=by
 rw[dO hk,fJ,ug];simp[hk]
theorem TU{s:aJ}{b g:Int}{k:Nat}(hk:k<s.aA.length):MC s b g (k+1)=MC s b g k+wX s b g (hold s.aA k):=Vg _ _ Xb hk
theorem RH{l:List Move}{b g:Int}{k:Nat}(hk:k<l.length):FD l b g (k+1)=FD l b g k+Aj b g (bH l k):=Vg _ _ Ox hk
theorem Qc{l:List Move}{b g:Int}{k:Nat}(hk:k<l.length):FI l b g (k+1)=FI l b g k+toN b g (bH l k):=Vg _ _ Ox hk
theorem Gq(s:aJ)(b g:Int):MC s b g s.aA.length=pK s b g:=by unfold MC pK;rw[fG]
theorem JZ(l:List Move)(b g:Int):FD l b g l.length=lZ l b g:=by unfold FD lZ;rw[fG]
theorem MP(l:List Move)(b g:Int):FI l b g l.length=Lh l b g:=by unfold FI Lh;rw[fG]
theorem Fp{l:List Int}{m:Int}(h:∀x∈l,0<=x/\x<=m):0<=l.sum/\l.sum<=l.length*m:=by
 induction l with
 |nil=>simp
 |cons x l ih=>
  have h1:=h x (by simp)
  have h2:=ih (λy hy=>h y (by simp[hy]))
  rw[iI,dw,Int.natCast_add,xW];omega
theorem DF{p:dA}{s:aJ}(h:o9 p s)(b g:Int)(k:Nat):0<=MC s b g k/\MC s b g k<=14400:=by
 have h72:=su h.aA;have hr:=Fp (l:=(s.aA.take k).map (wX s b g)) (m:=200) (λx hx=>by
  obtain⟨y,hy,rfl⟩:=kV.1 hx;obtain⟨i,hi,rfl⟩:=aV (tq hy);have:=jfS h.aA hi;rw[iL hi]at this
  unfold wX;split<;>omega)
 rw[fU,bT]at hr
 unfold MC;omega
theorem GL{p:dA}{s:aJ}(h:o9 p s)(b g:Int)(k:Nat):0<=FD s.aF b g k/\FD s.aF b g k<=1600:=by
 have h8:=h.vJ;have hr:=Fp (l:=(s.aF.take k).map (Aj b g)) (m:=200) (λx hx=>by
  obtain⟨y,hy,rfl⟩:=kV.1 hx;obtain⟨i,hi,rfl⟩:=aV (tq hy);have:=h.bH hi;rw[Wh.pI hi]at this
  unfold Aj;split<;>omega)
 rw[fU,bT]at hr
 unfold FD;omega
theorem Ju{p:dA}{s:aJ}(h:o9 p s)(b g:Int)(k:Nat):0<=FI s.aF b g k/\FI s.aF b g k<=1600:=by
 have h8:=h.vJ;have hr:=Fp (l:=(s.aF.take k).map (toN b g)) (m:=200) (λx hx=>by
  obtain⟨y,hy,rfl⟩:=kV.1 hx;obtain⟨i,hi,rfl⟩:=aV (tq hy);have:=h.bH hi;rw[Wh.pI hi]at this
  unfold toN;split<;>omega)
 rw[fU,bT]at hr
 unfold FI;omega
theorem EY{p:dA}{s:aJ}(h:o9 p s)(b g:Int):0<=bound s b g/\bound s b g<=16000:=by
 have h1:=DF h b g s.aA.length;have h2:=GL h b g s.aF.length;rw[Gq]at h1
 rw[JZ]at h2
 unfold bound;omega
theorem xC{p:dA}{s:aJ}(h:o9 p s)(b g:Int):0<=iq s b g/\iq s b g<=1600:=by
 have h2:=Ju h b g s.aF.length;rw[MP]at h2
 exact h2
theorem KI{n:Nat}{P:Nat->Bool}:(List.range n).all P=true↔∀k,k<n->P k=true:=by
 rw[aX];exact⟨λh k hk=>h k (gZ.2 hk),λh k hk=>h k (gZ.1 hk)⟩
theorem jbb{n:Nat}{P:Nat->Bool}{k:Nat}(hk:k<n)(h:P k=false):(List.range n).all P=false:=by
 cases ha:(List.range n).all P
 ·rfl
 ·rw[KI.1 ha k hk]at h;cases h
theorem Qk{p:dA}{s:aJ}:Eu p s=true↔(∀g,g<p.aP.length->wZ p s g=true)/\∀o,o<s.ak.length->wI s o=true:=by
 unfold Eu;rw[bG,KI,KI]
theorem JH{p:dA}{s:aJ}{g:Nat}(hg:g<p.aP.length)(h:wZ p s g=false):Eu p s=false:=by
 unfold Eu;rw[jbb hg h,uY]
theorem qF{p:dA}{s:aJ}{o:Nat}(ho:o<s.ak.length)(h:wI s o=false):Eu p s=false:=by
 unfold Eu;rw[jbb ho h,BN]
theorem yA{p:dA}{s:aJ}{g:Nat}:wZ p s g=true↔BU s.on g=bI s.gY g - bI s.O g+bI s.bg g/\∀b:Nat,b<p.bQ.length->bound s b g<=cell s.on b g:=by
 unfold wZ;rw[bG,KI];simp
theorem Oi{p:dA}{s:aJ}{g:Nat}(h:BU s.on g≠bI s.gY g - bI s.O g+bI s.bg g):wZ p s g=false:=by
 cases hq:wZ p s g
 ·rfl
 ·exact absurd (yA.1 hq).1 h
theorem Oj{p:dA}{s:aJ}{g b:Nat}(hb:b<p.bQ.length)(h:cell s.on b g<bound s b g):wZ p s g=false:=by
 cases hq:wZ p s g
 ·rfl
 ·have:=(yA.1 hq).2 b hb;omega
theorem sJ{s:aJ}{o:Nat}:wI s o=true↔¬((s.aC o).dW=1/\oZ (s.aC o)=true)/\∀k,k<(s.aC o).aH.length->mM s o k=true:=by
 unfold wI;rw[bG,KI];by_cases h1:(s.aC o).dW=1<;>simp[h1]
theorem MX{s:aJ}{o:Nat}(h:(s.aC o).dW=1)(h2:oZ (s.aC o)=true):wI s o=false:=by
 cases hq:wI s o
 ·rfl
 ·exact absurd ⟨h,h2⟩ (sJ.1 hq).1
theorem nS{s:aJ}{o k:Nat}(hk:k<(s.aC o).aH.length)(h:mM s o k=false):wI s o=false:=by
 cases hq:wI s o
 ·rfl
 ·rw[(sJ.1 hq).2 k hk]at h
  cases h
theorem uz{s:aJ}{o k:Nat}:mM s o k=true↔(s.aG o k).oh+(s.aG o k).dP+kept s.aA o k=(if(s.aC o).dW=0 then 0 else(s.aG o k).iw)/\¬((s.aC o).dW=2/\0<kept s.aA o k):=by
 unfold mM;by_cases h1:(s.aC o).dW=2<;>simp[h1]
theorem Xq{p:dA}{s:aJ}(h:o9 p s){o:Nat}(ho:o<s.ak.length):((s.aC o).aH.any λx=>decide (x.oh<x.iw))= !(oZ (s.aC o)):=by
 have hl:∀x∈(s.aC o).aH,x.oh<=x.iw:=λx hx=>by
  obtain⟨k,hk,rfl⟩:=aV hx;have:=(h.aG ho hk).2.2.1.2;unfold aJ.aG at this
  rwa [qw hk]at this
 unfold oZ;rw[<- FP];generalize (s.aC o).aH=l at hl
 induction l with
 |nil=>rfl
 |cons x l ih=>
  rw[zk,zk,ih (λy hy=>hl y (by simp[hy]))]
  congr 1
  have:=hl x (by simp)
  rw[uj];simp
  omega
theorem yE{o:Order}:oZ o=true↔∀k,k<o.aH.length->(gK o.aH k).oh=(gK o.aH k).iw:=by
 unfold oZ;constructor
 ·intro h k hk;have:=uP Lc h hk;simpa[gK]using this
 ·intro h;refine D7 Lc λk hk=>?_
  have:=h k hk;unfold gK at this
  simpa using this
theorem jdb{p:dA}(l:List Int)(lo:Int)(hn:0<p.aP.length):(l.length≠p.aP.length/\uN p l lo=false)\/(l.length=p.aP.length/\CY l<lo/\uN p l lo=false)\/
  (l.length=p.aP.length/\lo<=CY l/\1048576<yx l/\uN p l lo=false)\/(l.length=p.aP.length/\lo<=CY l/\yx l<=1048576/\uN p l lo=true):=by
 by_cases h1:l.length=p.aP.length
 ·have hp:0<l.length:=by omega
  have hlo:lo<=CY l↔∀j,j<l.length->lo<=bI l j:=by
   unfold CY;rw[NM];exact⟨λh j hj=>h j (by omega),λh j hj=>h j (by omega)⟩
  have hhi:yx l<=1048576↔∀j,j<l.length->bI l j<=1048576:=by
   unfold yx;rw[NJ];exact⟨λh j hj=>h j (by omega),λh j hj=>h j (by omega)⟩
  have hs:uN p l lo=true↔lo<=CY l/\yx l<=1048576:=by
   rw[qU,hlo,hhi];constructor
   ·rintro⟨_,h⟩;exact⟨λj hj=>(dV.1 (uP 0 h hj)).1,λj hj=>(dV.1 (uP 0 h hj)).2⟩
   ·rintro⟨h2,h3⟩;exact⟨h1,D7 0 λj hj=>dV.2 ⟨h2 j hj,h3 j hj⟩⟩
  cases hq:uN p l lo
  ·rw[hq]at hs
   simp only[iE,vg]at hs
   simp only[h1,mD,mg,ne_eq,vZ,wY,reduceCtorEq,qm,ny];omega
  ·rw[hq]at hs
   simp only[uG]at hs
   simp only[h1,mD,mg,ne_eq,vZ,wY,reduceCtorEq,qm];omega
 ·refine .inl ⟨h1,?_⟩
  unfold uN;rw[fA h1,uY]
end Wh
