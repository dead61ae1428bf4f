/- Texts of the claim, joined. -/
import Derived.Test.YtniaecolikhmeaaGreatDoorQ03
set_option maxHeartbeats 20000000
set_option maxRecDepth 100000
set_option linter.all false
namespace Wh
def act(p:dG)(s:aI)(x:Qw):aI×Int:=
 if x.eH=1 then rD p s x.a x.b x.n
 else if x.eH=2 then enter p s x.aH
 else if x.eH=3 then zO p s
 else if x.eH=4 then Ad p s x.a
 else if x.eH=5 then pick p s x.a x.b x.c x.n
 else if x.eH=6 then fill p s
 else if x.eH=7 then D6 p s x.a x.n
 else if x.eH=8 then count p s x.a x.b x.n
 else(kF,8)
def CV(s:aI)(g:Int):Int:=WU (jdf s g) s s.ak.length 0
theorem WT{F G:Nat->Nat->Int}{s t:aI}{n:Nat}(hl:∀o,o<n->(t.aC o).aH.length=(s.aC o).aH.length)(hF:∀o k,o<n->k<(s.aC o).aH.length->G o k=F o k):WU G t n 0=WU F s n 0:=by
 unfold WU;congr 1
 refine zN λo ho=>?_
 rw[hl o ho];exact zN λk hk=>hF o k ho hk
theorem Ia{s t:aI}(h:t.ak.length=s.ak.length)(hl:∀o,o<s.ak.length->(t.aC o).aH.length=(s.aC o).aH.length)
  (hg:∀o k,o<s.ak.length->k<(s.aC o).aH.length->(t.aK o k).dW=(s.aK o k).dW/\(t.aK o k).qI=(s.aK o k).qI) (g:Int):CV t g=CV s g:=by
 unfold CV;rw[h];refine WT hl λo k ho hk=>?_
 obtain⟨h1,h2⟩:=hg o k ho hk;unfold jdf;rw[h1,h2]
theorem jiH{F G:Nat->Nat->Int}{s t:aI}{n i j:Nat}{d:Int}(hl:∀o,o<n->(t.aC o).aH.length=(s.aC o).aH.length)(hi:i<n)(hj:j<(s.aC i).aH.length)
  (hF:∀o k,o<n->k<(s.aC o).aH.length->¬(o=i/\k=j)->G o k=F o k) (hd:G i j=F i j+d):WU G t n 0=WU F s n 0+d:=by
 have:=FK (f:=λo=>ny (F o) (s.aC o).aH.length) (g:=λo=>ny (G o) (t.aC o).aH.length) (n:=n) (i:=i) (d:=d) hi (λo ho hne=>by
  show ny (G o) (t.aC o).aH.length=ny (F o) (s.aC o).aH.length;rw[hl o ho];exact zN λk hk=>hF o k ho hk (λh=>hne h.1)) (by
  show ny (G i) (t.aC i).aH.length=ny (F i) (s.aC i).aH.length+d;rw[hl i hi];exact FK hj (λk hk hne=>hF i k hi hk (λh=>hne h.2)) hd)
 unfold WU;rw[this];show _+0=_+0+d;omega
structure Kept(p:dG)(s t:aI):Prop where
 check:aO p t=0
 went:∀g,g<p.aW.length->aZ t.O g - aZ s.O g=CV t g - CV s g/\CV s g<=CV t g
section
variable {p:dG} {s:aI}
theorem jaw{b g n:Int}(h:(rD p s b g n).2=0):Kept p s (rD p s b g n).1:=by
 refine⟨(jav h).1,λk hk=>?_⟩
 obtain⟨_,_,_,_,_,_,_,e⟩:=LH h;rw[e];have:CV {s with on:=setCell s.on b.toNat g.toNat (cell s.on b.toNat g.toNat+n),jf:=s.jf.set g.toNat (aZ s.jf g.toNat+n)} k=CV s k:=Ia rfl (λ_ _=>rfl) (λ_ _ _ _=>⟨rfl,rfl⟩) k
 rw[this];exact⟨by show aZ s.O k - aZ s.O k=_;omega,iT _⟩
theorem jfo{l:List Line}(h:(enter p s l).2=0):Kept p s (enter p s l).1:=by
 refine⟨(jfn h).1,λg hg=>?_⟩
 obtain⟨_,_,_,hl,e⟩:=Pj h;rw[e];have hor:∀o,o<s.ak.length->({s with ak:=s.ak++[⟨0,l⟩]}:aI).aC o=s.aC o:=λo ho=>by
  unfold aI.aC bK;simp[ho,fE]
 have hnew:({s with ak:=s.ak++[⟨0,l⟩]}:aI).aC s.ak.length=⟨0,l⟩:=by
  unfold aI.aC bK;simp
 have e1:CV {s with ak:=s.ak++[⟨0,l⟩]} g=CV s g:=by
  unfold CV;have lZ:({s with ak:=s.ak++[⟨0,l⟩]}:aI).ak.length=s.ak.length+1:=by simp
  rw[lZ,jet];have e2:=WT (F:=jdf s g) (G:=jdf {s with ak:=s.ak++[⟨0,l⟩]} g) (s:=s) (t:={s with ak:=s.ak++[⟨0,l⟩]}) (n:=s.ak.length) (λo ho=>by rw[hor o ho]) (λo k ho hk=>by
   unfold jdf aI.aK;rw[hor o ho])
  rw[<- e2];unfold WU;congr 1
  refine Wx λk hk=>?_
  rw[hnew]at hk
  unfold jdf aI.aK;rw[hnew];have:=(hl (fG l k) (by rw[qw hk];exact dh hk)).2.1
  simp only;rw[this];split<;>rfl
 rw[e1];exact⟨by show aZ s.O g - aZ s.O g=_;omega,iT _⟩
theorem jau(h:(zO p s).2=0):Kept p s (zO p s).1:=by
 obtain⟨hc,e⟩:=Qz h;rw[e];have ht:=Ik hc;refine⟨YH hc,λg hg=>?_⟩
 have:CV (EY p s) g=CV s g:=Ia (jbZ hc) (λo ho=>YG hc ho) (λo k ho hk=>by
  obtain⟨a1,_,a3⟩:=ht.aK o k;rw[a1,a3,Ib s ho hk];split<;>exact⟨rfl,rfl⟩) g
 rw[this,ht.O];exact⟨by show aZ s.O g - aZ s.O g=_;omega,iT _⟩
theorem jbq{o:Int}(h:(Ad p s o).2=0):Kept p s (Ad p s o).1:=by
 obtain⟨hc,i,rfl,hi,_,e⟩:=TB h;rw[e];refine⟨jbr hc hi,λg hg=>?_⟩
 have:CV (yj s i) g=CV s g:=Ia (FH s i) (λo _=>GI hi o) (λo k ho hk=>by
  rw[LC hi hk];split<;>exact⟨rfl,rfl⟩) g
 rw[this];exact⟨by show aZ s.O g - aZ s.O g=_;omega,iT _⟩
theorem jer{o k b n:Int}(h:(pick p s o k b n).2=0):Kept p s (pick p s o k b n).1:=by
 obtain⟨hc,i,j,c,rfl,rfl,rfl,f,e⟩:=WR h;rw[e];obtain⟨h1,h2,h3,h4,h5,_⟩:=Nq hc f;have hr:=jm hc;have hn0:=f.n0;refine⟨h1,λg hg=>?_⟩
 obtain⟨eg,hgl⟩:=QW hr f;obtain⟨ht,_,_⟩:=JW hr f;have hgood:((BF p s i j c n).aK i j).dW=(s.aK i j).dW:=(jcg hc f).2.2.1;have hout:aZ (BF p s i j c n).O g=aZ s.O g+if g=(s.aK i j).dW.toNat then n else 0:=by
  rw[JX,(FC _ i).2.2.2.2.1,ht.O];show aZ (s.O.set _ _) g=_;rw[JE (by rw[hr.sane.O.1];exact hgl)]
  split
  ·rename_i e;rw[e]
  ·omega
 have LP:CV (BF p s i j c n) g=CV s g+if g=(s.aK i j).dW.toNat then n else 0:=by
  unfold CV;rw[h2];refine jiH (i:=i) (j:=j) (λo _=>h3 o) f.ho f.hk (λo' k' _ _ hne=>?_) ?_
  ·unfold jdf;rw[(h4 o' k' hne).2]
  ·unfold jdf;rw[hgood,h5];by_cases hq:g=(s.aK i j).dW.toNat
   ·rw[aB hq,aB (by omega),aB (by omega)]
   ·rw[au hq,au (by omega),au (by omega)]
    rfl
 rw[hout,LP];constructor
 ·omega
 ·split<;>omega
theorem jfk(h:(fill p s).2=0):Kept p s (fill p s).1:=by
 obtain⟨hc,e⟩:=XW h;rw[e];have hf:=jbk hc;refine⟨jbj hf,λg hg=>?_⟩
 have e1:=hf.rest;have:CV (Ph p s) g=CV s g:=by rw[e1];exact Ia rfl (λ_ _=>rfl) (λ_ _ _ _=>⟨rfl,rfl⟩) g
 rw[this];have e2:(Ph p s).O=s.O:=by rw[e1]
 rw[e2];exact⟨by omega,iT _⟩
theorem jct{k n:Int}(h:(D6 p s k n).2=0):Kept p s (D6 p s k n).1:=by
 obtain⟨hc,i,rfl,f,e⟩:=UM h;rw[e];refine⟨jcu hc f,λg hg=>?_⟩
 have:CV (BR s i n) g=CV s g:=Ia rfl (λ_ _=>rfl) (λ_ _ _ _=>⟨rfl,rfl⟩) g
 rw[this];exact⟨by show aZ s.O g - aZ s.O g=_;omega,iT _⟩
theorem jdE{b g n:Int}(h:(count p s b g n).2=0):Kept p s (count p s b g n).1:=by
 obtain⟨hc,i,j,rfl,rfl,f,e⟩:=U7 h;rw[e];have ht:=NR hc f;refine⟨jdF hc f,λk hk=>?_⟩
 have:CV (Jg p s i j n) k=CV s k:=Ia (jhz hc f) (λo ho=>jdD hc f ho) (λo k ho hk=>by
  obtain⟨a1,_,a3⟩:=ht.aK o k;rw[a1,a3,Fa ho hk];exact⟨rfl,rfl⟩) k
 rw[this,ht.O];exact⟨by show aZ s.O k - aZ s.O k=_;omega,iT _⟩
theorem Yl{x:Qw}(h:(act p s x).2=0):aO p s=0/\Kept p s (act p s x).1:=by
 unfold act at h ⊢
 split at h
 ·rename_i hk;rw[aB hk];exact⟨(LH h).1,jaw h⟩
 rename_i h1;rw[au h1]
 split at h
 ·rename_i hk;rw[aB hk];exact⟨(Pj h).1,jfo h⟩
 rename_i h2;rw[au h2]
 split at h
 ·rename_i hk;rw[aB hk];exact⟨(Qz h).1,jau h⟩
 rename_i h3;rw[au h3]
 split at h
 ·rename_i hk;rw[aB hk];exact⟨(TB h).1,jbq h⟩
 rename_i h4;rw[au h4]
 split at h
 ·rename_i hk;rw[aB hk];exact⟨(WR h).1,jer h⟩
 rename_i h5;rw[au h5]
 split at h
 ·rename_i hk;rw[aB hk];exact⟨(XW h).1,jfk h⟩
 rename_i h6;rw[au h6]
 split at h
 ·rename_i hk;rw[aB hk];exact⟨(UM h).1,jct h⟩
 rename_i h7;rw[au h7]
 split at h
 ·rename_i hk;rw[aB hk];exact⟨(U7 h).1,jdE h⟩
 simp at h
end
def Ny(n:Int):Bool:=dM n 0 255
def jiS(x:Line):Bool:=Ny x.dW&&Ny x.jk&&Ny x.qI&&Ny x.eU
def jgT(x:Line):List Nat:=[x.dW.toNat,x.jk.toNat,x.qI.toNat,x.eU.toNat]
def jdQ(x:Qw):List Nat:=[x.eH.toNat,x.a.toNat,x.b.toNat,x.c.toNat,x.n.toNat,x.aH.length]++x.aH.flatMap jgT
def jmE(x:Qw):Bool:=Ny x.eH&&Ny x.a&&Ny x.b&&Ny x.c&&Ny x.n&&x.aH.all jiS
def ok(x:Qw):Prop:=jmE x=true/\x.aH.length<=3
def whole:List Qw->Nat->Nat
 |[],_=>0
 |x::l,k=>if(jdQ x).length<=k then whole l (k - (jdQ x).length)+1 else 0
def splitB(c:Nat):List Nat->List (List Nat)
 |[]=>[[]]
 |x::r=>if x=c then []::splitB c r else(x::(splitB c r).headD [])::(splitB c r).tail
def digits(n:Nat):List Nat:=if n<10 then [48+n]else digits (n / 10)++[48+n%10]
termination_by n
decreasing_by omega
def isDigit(x:Nat):Bool:=decide (48<=x)&&decide (x<=57)
def valOf(s:List Nat):Nat:=s.foldl (λn x=>10*n+(x - 48)) 0
def J3(s:List Nat):Int:=if 1<=s.length/\s.length<=6/\s.all isDigit=true/\digits (valOf s)=s then valOf s else -1
def zi:List (List Nat)->Option (List Int)
 |[]=>some []
 |w::r=>if J3 w<0 then none else(zi r).map (J3 w::·)
def lS:List Nat:=[114,101,99,101,105,118,101]
def ou:List Nat:=[99,97,110,99,101,108]
def xY:List Nat:=[112,105,99,107]
def sG:List Nat:=[109,111,118,101,100]
def sW:List Nat:=[99,111,117,110,116]
def nJ:List Nat:=[114,101,108,101,97,115,101]
def zL:List Nat:=[102,105,108,108]
def zx:List Nat:=[101,110,116,101,114]
def sD:List Nat:=[115,104,101,108,102]
def sF:List Nat:=[111,114,100,101,114]
def uJ:List Nat:=[104,111,108,100,115]
def uI:List Nat:=[109,111,118,101,115]
def CO:List Nat:=[111,112,101,110]
def wOk:List Nat:=[111,107]
def jap:List Nat:=[101,114,114,111,114]
def pairs:List Int->List Line
 |a::b::r=>⟨a,b,0,0⟩::pairs r
 |_=>[]
def xq(op:List Nat)(l:List Int):Option Qw:=
 if op=lS/\l.length=3 then some ⟨1,l.getD 0 0,l.getD 1 0,0,l.getD 2 0,[]⟩
 else if op=ou/\l.length=1 then some ⟨4,l.getD 0 0,0,0,0,[]⟩
 else if op=xY/\l.length=4 then some ⟨5,l.getD 0 0,l.getD 1 0,l.getD 2 0,l.getD 3 0,[]⟩
 else if op=sG/\l.length=2 then some ⟨7,l.getD 0 0,0,0,l.getD 1 0,[]⟩
 else if op=sW/\l.length=3 then some ⟨8,l.getD 0 0,l.getD 1 0,0,l.getD 2 0,[]⟩
 else if op=nJ/\l.length=0 then some ⟨3,0,0,0,0,[]⟩
 else if op=zL/\l.length=0 then some ⟨6,0,0,0,0,[]⟩
 else if op=zx/\l.length%2=0/\2<=l.length/\l.length<=6 then some ⟨2,0,0,0,0,pairs l⟩
 else none
def nD(p:dG)(s:aI)(op:List Nat)(l:List Int):Option (List Int×Int):=
 if op=sD/\l.length=1 then(if 0<=l.getD 0 0/\l.getD 0 0<p.dP.length then some (fO s.on (l.getD 0 0).toNat,0)else some ([],4))
 else if op=sF/\l.length=1 then(if 0<=l.getD 0 0/\l.getD 0 0<s.ak.length then some ((s.aC (l.getD 0 0).toNat).eH::(s.aC (l.getD 0 0).toNat).aH.flatMap (λx=>[x.jk,x.qI,x.eU]),0)else some ([],4))
 else if op=uJ/\l.length=0 then some (s.aA.flatMap (λh=>[h.aC,h.aK,h.bin,h.n]),0)
 else if op=uI/\l.length=0 then some (s.aF.flatMap (λx=>[x.dW,x.src,x.dst,x.n]),0)
 else if op=CO/\l.length=0 then some ([G8 s],0)
 else none
def refused(e:Int):List Nat:=jap++32::digits e.toNat
def lJ:List Int->List Nat
 |[]=>[]
 |[n]=>digits n.toNat
 |n::r=>digits n.toNat++32::lJ r
def rM(p:dG)(s:aI)(op:List Nat)(r:List (List Nat)):aI×List Nat:=
 match zi r with
 |none=>(s,refused 1)
 |some l=>match xq op l with
  |some x=>if(act p s x).2=0 then((act p s x).1,wOk)else(s,refused (act p s x).2)
  |none=>match nD p s op l with
   |none=>(s,refused 1)
   |some (o,e)=>if e=0 then(s,lJ o)else(s,refused e)
def EJ(p:dG)(s:aI)(t:List Nat):aI×List Nat:=rM p s ((splitB 32 t).headD []) (splitB 32 t).tail
def wG(p:dG):List (List Nat)->aI->List Nat
 |[],_=>[]
 |t::r,s=>(EJ p s t).2++10::wG p r (EJ p s t).1
def CS(p:dG)(t:List Nat):List Nat×Int:=
 if fU p≠0 then([],fU p)else if 4096<t.length\/60<t.count 10 then([],2)else if t≠[]/\t.getLast?≠some 10 then([],1)else(wG p (splitB 10 t).dropLast (begin p),0)
theorem LZ(c:Nat)(t:List Nat):splitB c t≠[]:=by
 cases t with
 |nil=>simp[splitB]
 |cons x r=>unfold splitB;split<;>simp
theorem KT{c:Nat}{t:List Nat}:(splitB c t).headD []::(splitB c t).tail=splitB c t:=by
 cases h:splitB c t with
 |nil=>exact absurd h (LZ c t)
 |cons p ps=>rfl
theorem Iw(c x:Nat):∀t:List Nat,splitB c (t++[x])=if x=c then splitB c t++[[]]else(splitB c t).dropLast++[(splitB c t).getLastD []++[x]]
 |[]=>by
  by_cases h:x=c<;>simp[splitB,h]
 |y::r=>by
  have ih:=Iw c x r;rw[gG,splitB,splitB];by_cases hy:y=c
  ·rw[aB hy,aB hy,ih];by_cases h:x=c
   ·rw[aB h,aB h];rfl
   ·rw[au h,au h];have:=LZ c r;cases hs:splitB c r with
    |nil=>exact absurd hs this
    |cons p ps=>rfl
  ·rw[au hy,au hy,ih];by_cases h:x=c
   ·rw[aB h,aB h];cases hs:splitB c r with
    |nil=>exact absurd hs (LZ c r)
    |cons p ps=>rfl
   ·rw[au h,au h];cases hs:splitB c r with
    |nil=>exact absurd hs (LZ c r)
    |cons p ps=>
     cases ps with
     |nil=>simp
     |cons q qs=>simp
theorem zX(n:Nat):digits n=if n<10 then [48+n]else digits (n / 10)++[48+n%10]:=by rw[digits]
theorem Em(n:Nat):∀x∈digits n,48<=x/\x<=57:=by
 induction n using Nat.strongRecOn with
 |ind n ih=>
  intro x hx;rw[zX]at hx
  split at hx
  ·rw[ig]at hx;omega
  ·rw[jD,ig]at hx
   rcases hx with hx|hx
   ·exact ih (n / 10) (by omega) x hx
   ·omega
theorem RP(n:Nat):0<(digits n).length:=by
 rw[zX];split<;>simp
theorem En:∀(k n:Nat),n<10 ^ (k+1)->(digits n).length<=k+1
 |0,n,h=>by
  rw[zX,aB (by simpa using h)]
  exact ay _
 |k+1,n,h=>by
  rw[zX];split
  ·simp
  ·have:=En k (n / 10) (by rw[Cb (by decide)];rw[EM]at h;exact h)
   rw[aX];simp only[bP,dQ];omega
theorem Wi(a:List Nat)(x:Nat):valOf (a++[x])=10*valOf a+(x - 48):=by
 unfold valOf;rw[lH];rfl
theorem Jo(n:Nat):valOf (digits n)=n:=by
 induction n using Nat.strongRecOn with
 |ind n ih=>
  rw[zX];split
  ·simp[valOf]
  ·rw[Wi,ih (n / 10) (by omega)]
   omega
theorem jfr(n:Nat):(digits n).all isDigit=true:=by
 rw[bJ];intro x hx;have:=Em n x hx;simp[isDigit,this]
theorem WV{s:List Nat}{v:Nat}:J3 s=v↔s=digits v/\s.length<=6:=by
 unfold J3;constructor
 ·intro h;split at h
  ·rename_i hc
   have hv:valOf s=v:=by omega
   rw[<- hv];exact⟨hc.2.2.2.symm,hc.2.1⟩
  ·omega
 ·rintro⟨h,hl⟩;rw[aB ⟨by rw[h];exact RP v,hl,by rw[h];exact jfr v,by rw[h,Jo]⟩,h,Jo]
theorem jcr{s:List Nat}(h:∀v:Nat,¬(s=digits v/\s.length<=6)):J3 s= -1:=by
 unfold J3;split
 ·rename_i hc
  exact absurd ⟨hc.2.2.2.symm,hc.2.1⟩ (h _)
 ·rfl
theorem jlz{s:List Nat}:J3 s<1000000:=by
 by_cases h:∃v:Nat,s=digits v/\s.length<=6
 ·obtain⟨v,h1,h2⟩:=h;rw[WV.2 ⟨h1,h2⟩];have key:∀(k n:Nat),10 ^ k<=n->k+1<=(digits n).length:=by
   intro k;induction k with
   |zero=>intro n _;exact RP n
   |succ k ih=>
    intro n hn;rw[EM]at hn
    have hp:0<10 ^ k:=Nat.pow_pos (by decide)
    rw[zX,au (by omega),aX]
    have:=ih (n / 10) (by rw[Nat.le_div_iff_mul_le (by decide)];exact hn)
    simp only[bP,dQ];omega
  rw[h1]at h2
  rcases rH v 1000000 with h3|h3
  ·omega
  ·have:=key 6 v (by simpa using h3)
   omega
 ·rw[jcr λv hv=>h ⟨v,hv⟩]
  omega
def fl(o:Order)(k:Nat):Order:=⟨1,(o.aH.take k).map (λx=>{x with eU:=x.jk})++o.aH.drop k⟩
def uh(s:aI)(n:Nat):aI:={s with ak:=(s.ak.take n).map MJ++s.ak.drop n}
def Ej(s:aI)(n k:Nat):aI:={s with ak:=(uh s n).ak.set n (fl (s.aC n) k)}
section
variable {s:aI} {n k:Nat}
theorem U0(s:aI):uh s 0=s:=by simp[uh]
theorem XT(s:aI):uh s s.ak.length=mW s:=by simp[uh,mW]
theorem FB(s:aI)(n:Nat):(uh s n).ak.length=s.ak.length:=by
 unfold uh;simp only[aX,gX,bC,jv];omega
theorem Jy(hn:n<s.ak.length):(uh s n).aC n=s.aC n:=by
 unfold aI.aC bK uh;simp only[List.getD];rw[jO (by simp;omega)]
 simp[jK (iQ hn)]
theorem U1(hn:n<s.ak.length):uh s (n+1)={s with ak:=(uh s n).ak.set n (MJ (s.aC n))}:=by
 have e:s.aC n=s.ak[n]:=uO hn;unfold uh;rw[e,bM hn,gJ,gZ];congr 1
 have h1:((s.ak.take n).map MJ).length=n:=by simp;omega
 rw[nP _ _ (by omega),h1,uV,jU hn]
 rfl
theorem jdj(hn:n<s.ak.length):(uh s n).ak.set n (s.aC n)=(uh s n).ak:=by
 rw[<- Jy hn];unfold aI.aC;rw[uO (by rw[FB];exact hn),List.set_getElem_self]
theorem U2(hn:n<s.ak.length)(hk:(s.aC n).eH≠0):uh s (n+1)=uh s n:=by
 rw[U1 hn];have:MJ (s.aC n)=s.aC n:=by unfold MJ;rw[au hk]
 rw[this,jdj hn];rfl
theorem jmh(o:Order):fl o 0={o with eH:=1}:=by simp[fl]
theorem jpr(o:Order)(hk:o.eH=0):fl o o.aH.length=MJ o:=by
 unfold fl MJ;rw[aB hk];simp
theorem jpq(o:Order)(k:Nat):(fl o k).aH.length=o.aH.length:=by
 unfold fl;simp only[aX,gX,bC,jv];omega
theorem jmj{o:Order}{k:Nat}(hk:k<o.aH.length):fG (fl o k).aH k=fG o.aH k:=by
 unfold fl fG;simp only[List.getD];rw[jO (by simp;omega)]
 simp[jK (iQ hk)]
theorem jmi{o:Order}{k:Nat}(hk:k<o.aH.length):fl o (k+1)={fl o k with aH:=(fl o k).aH.set k {fG o.aH k with eU:=(fG o.aH k).jk}}:=by
 have e:fG o.aH k=o.aH[k]:=qw hk;unfold fl;rw[e,bM hk,gJ,gZ];congr 1
 have h1:((o.aH.take k).map λx=>({x with eU:=x.jk}:Line)).length=k:=by simp;omega
 rw[nP _ _ (by omega),h1,uV,jU hk]
 rfl
theorem U3(hn:n<s.ak.length):({uh s n with ak:=(uh s n).ak.set n {(uh s n).aC n with eH:=1}}:aI)=Ej s n 0:=by
 unfold Ej;rw[jmh,Jy hn];rfl
theorem Kr:(Ej s n k).ak.length=s.ak.length:=by
 unfold Ej;rw[jL,FB]
theorem NK(hn:n<s.ak.length):(Ej s n k).aC n=fl (s.aC n) k:=by
 have:=FT (l:=(uh s n).ak) (o:=n) (by rw[FB];exact hn) (fl (s.aC n) k) n
 rw[aB rfl]at this
 exact this
theorem EF(hn:n<s.ak.length):((Ej s n k).aC n).aH.length=(s.aC n).aH.length:=by rw[NK hn,jpq]
theorem Lm(hn:n<s.ak.length)(hk:k<(s.aC n).aH.length):(Ej s n k).aK n k=s.aK n k:=by
 unfold aI.aK;rw[NK hn,jmj hk]
theorem U4(hn:n<s.ak.length)(hk:k<(s.aC n).aH.length):(Ej s n k).mD n k {s.aK n k with eU:=(s.aK n k).jk}=Ej s n (k+1):=by
 unfold aI.mD;rw[NK hn];have e:s.aK n k=fG (s.aC n).aH k:=rfl;rw[e,<- jmi hk];show({s with ak:=((uh s n).ak.set n (fl (s.aC n) k)).set n (fl (s.aC n) (k+1))}:aI)=_
 rw[EN];rfl
theorem XU(hn:n<s.ak.length)(hk:(s.aC n).eH=0):Ej s n (s.aC n).aH.length=uh s (n+1):=by
 unfold Ej;rw[jpr _ hk,U1 hn]
def EZ(p:dG)(s:aI)(n k:Nat):aI:=JA p n k (jM p n (mW s))
theorem Nk{p:dG}(h:aO p s=0)(hn:n<s.ak.length)(hkd:((jM p n (mW s)).aC n).eH=1)(hk:k<=(s.aC n).aH.length):
  lu p (EZ p s n k)/\(EZ p s n k).ak.length=s.ak.length/\(∀o,((EZ p s n k).aC o).eH=((jM p n (mW s)).aC o).eH)/\((EZ p s n k).aC n).aH.length=(s.aC n).aH.length:=by
 have hf:=jm (Ll h);have h1:=Et hf n (by rw[yA];omega)
 have hl:((jM p n (mW s)).aC n).aH.length=(s.aC n).aH.length:=by rw[h1.aH,BJ s hn]
 have h2:=IZ h1.right (o:=n) (by rw[h1.ak,yA];exact hn) hkd k (by rw[hl];exact hk)
 exact⟨h2.right,by rw[show EZ p s n k=JA p n k (jM p n (mW s))from rfl,h2.ak,h1.ak,yA],h2.eH,by rw[show EZ p s n k=JA p n k (jM p n (mW s))from rfl,h2.aH,hl]⟩
theorem jb2{p:dG}(h:aO p s=0)(hn:n<s.ak.length)(hkd:((jM p n (mW s)).aC n).eH=1)(hk:k<(s.aC n).aH.length):May (EZ p s n k) n k ((EZ p s n k).aK n k).eU:=by
 obtain⟨h1,h2,h3,h4⟩:=Nk h hn hkd (iQ hk);exact Zo h1 (by rw[h2];exact hn) (by rw[h4];exact hk) (by rw[h3];exact hkd)
theorem Nj{p:dG}(h:aO p s=0)(hn:n<=s.ak.length):lu p (jM p n (mW s))/\(jM p n (mW s)).ak.length=s.ak.length/\∀o,o<s.ak.length->((jM p n (mW s)).aC o).aH.length=(s.aC o).aH.length:=by
 have hf:=jm (Ll h);have h1:=Et hf n (by rw[yA];omega)
 exact⟨h1.right,by rw[h1.ak,yA],λo ho=>by rw[h1.aH,BJ s ho]⟩
theorem jb1{p:dG}(h:aO p s=0)(hn:n<s.ak.length)(hkd:((jM p n (mW s)).aC n).eH=1):EZ p s n (s.aC n).aH.length=jM p (n+1) (mW s):=by
 show _=Hg p (jM p n (mW s)) n;unfold Hg;rw[aB hkd,(Nj h (iQ hn)).2.2 n hn];rfl
theorem jfS{p:dG}(hkd:((jM p n (mW s)).aC n).eH≠1):jM p (n+1) (mW s)=jM p n (mW s):=by
 show Hg p (jM p n (mW s)) n=_;unfold Hg;rw[au hkd]
end
section
variable {p:dG} {s:aI} {o:Int}
theorem UF(h:aO p s≠0):zO p s=(kF,aO p s):=by unfold zO;rw[aB h]
theorem WG(h:aO p s=0):zO p s=(EY p s,0):=by unfold zO;rw[au (λhn=>hn h)]
theorem Yf(h:aO p s≠0):Ad p s o=(kF,aO p s):=by unfold Ad;rw[aB h]
theorem PI(h:aO p s=0)(h2:o<0\/(s.ak.length:Int)<=o):Ad p s o=(kF,4):=by
 unfold Ad;rw[au (λhn=>hn h),mY.2 (by omega)]
 rfl
theorem Vd{i:Nat}(h:aO p s=0)(hi:i<s.ak.length)(hk:(s.aC i).eH=2):Ad p s i=(kF,6):=by
 unfold Ad;rw[au (λhn=>hn h),dZ.2 (by omega),au (by simp),dn,aB hk]
theorem jac{i:Nat}(h:aO p s=0)(hi:i<s.ak.length)(hk:(s.aC i).eH≠2):Ad p s i=(yj s i,0):=by
 unfold Ad;rw[au (λhn=>hn h),dZ.2 (by omega),au (by simp),dn,au hk]
end
def ES(o:Order)(k:Nat):List Line:=(o.aH.take k).map (λx=>{x with eU:=x.jk - x.qI})++o.aH.drop k
theorem jdH(o:Order):ES o 0=o.aH:=by simp[ES]
theorem jfz(o:Order):ES o o.aH.length=o.aH.map λx=>{x with eU:=x.jk - x.qI}:=by simp[ES]
theorem jfy(o:Order)(k:Nat):(ES o k).length=o.aH.length:=by
 unfold ES;simp only[aX,gX,bC,jv];omega
theorem jdJ{o:Order}{k:Nat}(hk:k<o.aH.length):fG (ES o k) k=fG o.aH k:=by
 unfold ES fG;simp only[List.getD];rw[jO (by simp;omega)]
 simp[jK (iQ hk)]
theorem jdI{o:Order}{k:Nat}(hk:k<o.aH.length):ES o (k+1)=(ES o k).set k {fG o.aH k with eU:=(fG o.aH k).jk - (fG o.aH k).qI}:=by
 have e:fG o.aH k=o.aH[k]:=qw hk;unfold ES;rw[e,bM hk,gJ,gZ];have h1:((o.aH.take k).map λx=>({x with eU:=x.jk - x.qI}:Line)).length=k:=by simp;omega
 rw[nP _ _ (by omega),h1,uV,jU hk]
 rfl
def GK(s:aI)(l:List eX)(i k:Nat):aI:={s with aA:=l,ak:=s.ak.set i ⟨2,ES (s.aC i) k⟩}
section
variable {s:aI} {l:List eX} {i k:Nat}
theorem Yg:({s with aA:=l,ak:=s.ak.set i {s.aC i with eH:=2}}:aI)=GK s l i 0:=by
 unfold GK;rw[jdH]
theorem MR:(GK s l i k).ak.length=s.ak.length:=by unfold GK;rw[jL]
theorem PK(hi:i<s.ak.length):(GK s l i k).aC i=⟨2,ES (s.aC i) k⟩:=by
 have:=FT (l:=s.ak) hi ⟨2,ES (s.aC i) k⟩ i;rw[aB rfl]at this
 exact this
theorem F5(hi:i<s.ak.length):((GK s l i k).aC i).aH.length=(s.aC i).aH.length:=by rw[PK hi,jfy]
theorem NU(hi:i<s.ak.length)(hk:k<(s.aC i).aH.length):(GK s l i k).aK i k=s.aK i k:=by
 unfold aI.aK;rw[PK hi,jdJ hk]
theorem Yh(hi:i<s.ak.length)(hk:k<(s.aC i).aH.length):(GK s l i k).mD i k {s.aK i k with eU:=(s.aK i k).jk - (s.aK i k).qI}=GK s l i (k+1):=by
 unfold aI.mD;rw[PK hi];have e:s.aK i k=fG (s.aC i).aH k:=rfl;rw[e];show({s with aA:=l,ak:=(s.ak.set i ⟨2,ES (s.aC i) k⟩).set i ⟨2,(ES (s.aC i) k).set k _⟩}:aI)=_
 rw[EN,<- jdI hk];rfl
theorem jad:GK s (s.aA.filter λh=>decide (h.aC≠i)) i (s.aC i).aH.length=yj s i:=by
 unfold GK yj;rw[jfz]
end
section
variable {p:dG} {s:aI}
def fb(p:dG)(s:aI)(b:Nat):aI:=(vT p true b).foldl (λt b=>(List.range p.aW.length).foldl (tK p b) t) s
theorem jpv:fb p s p.dP.length=Ph p s:=by unfold fb Ph;rw[Ld]
def fg(p:dG)(s:aI)(b g:Nat):aI:=(List.range g).foldl (tK p b) (fb p s b)
theorem jbm(b g:Nat):fg p s b (g+1)=tK p b (fg p s b g) g:=by
 unfold fg;rw[nU,lH];rfl
theorem jko{b:Nat}(h:(p.bin b).front=true):fb p s (b+1)=fg p s b p.aW.length:=by
 unfold fb fg;rw[FU h,lH];rfl
theorem jnD{b:Nat}(h:(p.bin b).front=false):fb p s (b+1)=fb p s b:=by
 unfold fb;rw[Hw (by unfold dG.bin at h;rw[h];decide)]
def ff(p:dG)(s:aI)(b g f:Nat):aI:=(vT p false f).foldl (λt f=>Jl p t b g f) (fg p s b g)
theorem jml(b g:Nat):ff p s b g 0=fg p s b g:=rfl
theorem jdq{b g f:Nat}(h:(p.bin f).front=true):ff p s b g (f+1)=ff p s b g f:=by
 unfold ff;rw[Hw (by unfold dG.bin at h;rw[h];decide)]
theorem ZY{b g f:Nat}(h:(p.bin f).front=false):ff p s b g (f+1)=Jl p (ff p s b g f) b g f:=by
 unfold ff;rw[FU h,lH];rfl
theorem jkn{b g:Nat}(h:cell (fg p s b g).on b g+iC (fg p s b g) b g<(p.bin b).low):fg p s b (g+1)=ff p s b g p.dP.length:=by
 rw[jbm];unfold tK ff;rw[aB h,Ld]
theorem jpu{b g:Nat}(h:¬cell (fg p s b g).on b g+iC (fg p s b g) b g<(p.bin b).low):fg p s b (g+1)=fg p s b g:=by
 rw[jbm];unfold tK;rw[au h]
theorem RI{t:aI}{b g f:Nat}(h:8<=t.aF.length):Jl p t b g f=t:=by unfold Jl;rw[aB h]
theorem XZ{t:aI}{b g f:Nat}(h:¬ 8<=t.aF.length)(h2:0<IQ p t b g f):Jl p t b g f=zY t ⟨g,f,b,IQ p t b g f⟩:=by unfold Jl;rw[au h,aB h2];rfl
theorem X0{t:aI}{b g f:Nat}(h:¬ 8<=t.aF.length)(h2:¬ 0<IQ p t b g f):Jl p t b g f=t:=by unfold Jl;rw[au h,au h2]
theorem Z4(h:aO p s=0):∀b,b<=p.dP.length->xA p s (fb p s b)
 |0,_=>O9 h
 |b+1,hb=>by
  have ih:=Z4 h b (by omega)
  cases hf:(p.bin b).front
  ·rw[jnD hf];exact ih
  ·rw[jko hf];exact RH ih (by omega) hf
theorem Us(h:aO p s=0){b:Nat}(hb:b<p.dP.length)(hf:(p.bin b).front=true):∀g,g<=p.aW.length->xA p s (fg p s b g)
 |0,_=>Z4 h b (by omega)
 |g+1,hg=>by
  rw[jbm];exact Pg (Us h hb hf g (by omega)) hb (by omega) hf
theorem ZX(h:aO p s=0){b g:Nat}(hb:b<p.dP.length)(hf:(p.bin b).front=true)(hg:g<p.aW.length):∀f,f<=p.dP.length->xA p s (ff p s b g f)
 |0,_=>Us h hb hf g (by omega)
 |f+1,hl=>by
  have ih:=ZX h hb hf hg f (by omega)
  cases Yq:(p.bin f).front
  ·rw[ZY Yq];exact RG ih hb hg (by omega) hf Yq
  ·rw[jdq Yq];exact ih
end
namespace iw
variable {α:Type} (C:iw α)
def mid(l:List α)(v:Int)(j:Nat):List α×Int:=(l.take j++(C.cut (l.drop j) v).1,(C.cut (l.drop j) v).2)
variable {C}
theorem jf3(l:List α)(v:Int):C.mid l v l.length=(l,v):=by
 unfold mid;rw[xH,dR];show(l++[],v)=_;rw[jd]
theorem mid_zero(l:List α)(v:Int):C.mid l v 0=C.cut l v:=rfl
theorem P9(l:List α)(v:Int)(j:Nat):(C.mid l v j).1.length=l.length:=by
 unfold mid;rw[aX,RQ,bC,jv];omega
theorem jaP{l:List α}(v:Int){i j:Nat}(hi:i<l.length)(hij:i<j):(C.mid l v j).1[i]?=some l[i]:=by
 unfold mid;rw[fE (by rw[bC];omega),List.getElem?_take_of_lt hij,bQ hi]
theorem jf4{l:List α}(v:Int){j:Nat}(hj:j<l.length)(h:C.is l[j]=false):C.mid l v j=C.mid l v (j+1):=by
 unfold mid;rw[jU hj,EH h,bM hj,gZ];rfl
theorem jiN{l:List α}(v:Int){j:Nat}(hj:j<l.length)(h:C.is l[j]=true):
  C.mid l v j=((C.mid l v (j+1)).1.set j (C.put l[j] (C.num l[j] - less (C.mid l v (j+1)).2 (C.num l[j]))),(C.mid l v (j+1)).2 - less (C.mid l v (j+1)).2 (C.num l[j])):=by
 unfold mid;rw[jU hj,ER h,bM hj,gZ];have hl:(List.take j l).length<=j:=by rw[bC];omega
 have e:j - (List.take j l).length=0:=by rw[bC];omega
 rw[nP _ _ hl,e];rfl
theorem jf5{β:Type}(f:α->β)(hf:∀x n,f (C.put x n)=f x)(l:List α)(v:Int)(j:Nat):(C.mid l v j).1.map f=l.map f:=by
 unfold mid;rw[gJ,jgr f hf,<- gJ,jW]
theorem Xe{l:List α}(h:∀x∈l,0<=C.num x)(v:Int)(j:Nat):min v 0<=(C.mid l v j).2/\(C.mid l v j).2<=v:=by
 have hd:∀x∈l.drop j,0<=C.num x:=λx hx=>h x (Dn hx)
 have:=Kw hd v;have h2:=FI hd;unfold mid;simp only;omega
end iw
def yg(h:eX):Int×Int×Int:=(h.aC,h.aK,h.bin)
theorem Gp(x:eX)(r:List eX)(o k b:Int):dD (x::r) o k b=if x.aC=o/\x.aK=k/\x.bin=b then x.n else dD r o k b:=by
 unfold dD;rw[BN]
 by_cases h:x.aC=o/\x.aK=k/\x.bin=b
 ·have e:vS o k b x=true:=by unfold vS;simp[h.1,h.2.1,h.2.2]
  rw[e,aB h]
 ·have e:vS o k b x=false:=by
   unfold vS;by_cases h1:x.aC=o<;>by_cases h2:x.aK=k<;>by_cases h3:x.bin=b<;>simp[h1,h2,h3]
   exact h ⟨h1,h2,h3⟩
  rw[e,au h]
theorem Ez:∀ {l:List eX},(l.map yg).Nodup->∀ {i:Nat} (hi:i<l.length),dD l l[i].aC l[i].aK l[i].bin=l[i].n
 |[],_,i,hi=>by simp at hi
 |x::r,hn,0,_=>by rw[Gp];simp
 |x::r,hn,i+1,hi=>by
  rw[dJ,uD]at hn
  have hi':i<r.length:=by simpa using hi
  rw[Gp,au]
  ·exact Ez hn.2 hi'
  ·rintro⟨h1,h2,h3⟩;refine hn.1 (kN.2 ⟨r[i],dh hi',?_⟩)
   unfold yg;simp only[pF]at h1 h2 h3
   rw[h1,h2,h3]
theorem Rl{l:List eX}{o k b:Int}(h:∀x∈l,¬(x.aC=o/\x.aK=k/\x.bin=b)):dD l o k b=0:=by
 induction l with
 |nil=>rfl
 |cons x r ih=>rw[Gp,au (h x (bW ..)),ih λy hy=>h y (aY _ hy)]
theorem jcF{l:List eX}(hn:(l.map yg).Nodup)(o k b:Int):dD (l.filter λh=>!decide (h.n=0)) o k b=dD l o k b:=by
 induction l with
 |nil=>rfl
 |cons x r ih=>
  rw[dJ,uD]at hn
  rw[kS,Gp];by_cases h0:x.n=0
  ·rw[au (by simp[h0]),ih hn.2]
   split
   ·rename_i h
    rw[h0];refine Rl λy hy hh=>hn.1 (kN.2 ⟨y,hy,?_⟩)
    unfold yg;rw[hh.1,hh.2.1,hh.2.2,h.1,h.2.1,h.2.2]
   ·rfl
  ·rw[aB (by simp[h0]),Gp,ih hn.2]
theorem jcx{l:List eX}{j:Nat}(hj:j<l.length)(y:Int):(l.set j {l[j]with n:=y}).map yg=l.map yg:=by
 rw[List.map_set];apply ng;intro i;rw[qm]
 split
 ·rename_i h
  subst h;rw[aB (by simpa using hj),lG,bQ hj]
  rfl
 ·rfl
theorem Xn{l:List eX}(hn:(l.map yg).Nodup){j:Nat}(hj:j<l.length)(y:Int)(o k b:Int):
  dD (l.set j {l[j]with n:=y}) o k b=if l[j].aC=o/\l[j].aK=k/\l[j].bin=b then y else dD l o k b:=by
 have hn':((l.set j {l[j]with n:=y}).map yg).Nodup:=by rw[jcx hj];exact hn
 have lZ:(l.set j {l[j]with n:=y}).length=l.length:=jL ..
 split
 ·rename_i h
  have:=Ez hn' (i:=j) (by omega)
  rw[pY]at this
  rw[<- h.1,<- h.2.1,<- h.2.2];exact this
 ·rename_i h
  by_cases hx:∃i,∃hi:i<l.length,l[i].aC=o/\l[i].aK=k/\l[i].bin=b
  ·obtain⟨i,hi,h1,h2,h3⟩:=hx;have hij:j≠i:=λe=>by subst e;exact h ⟨h1,h2,h3⟩
   have e1:=Ez hn hi;have e2:=Ez hn' (i:=i) (by omega)
   rw[DR hij]at e2
   rw[h1,h2,h3]at e1 e2
   rw[e1,e2]
  ·have hnot:∀x∈l,¬(x.aC=o/\x.aK=k/\x.bin=b):=λx hx' hh=>by
    obtain⟨i,hi,rfl⟩:=bg hx';exact hx ⟨i,hi,hh⟩
   rw[Rl hnot,Rl];intro x hx' hh;obtain⟨i,hi,rfl⟩:=bg hx';by_cases hij:j=i
   ·subst hij;rw[pY]at hh
    exact h hh
   ·rw[DR hij]at hh
    exact hx ⟨i,by omega,hh⟩
theorem JZ{l:List eX}(h:iI l=true):(l.map yg).Nodup:=by
 have h2:=(gI.1 h).2;rw[List.Nodup,nZ];refine List.Pairwise.imp (λ{a b} hlt he=>?_) h2
 unfold yg at he
 simp only[DJ]at he
 unfold fP at hlt
 rw[he.1,he.2.1,he.2.2]at hlt
 omega
def hdO(s:aI)(b:Int)(l:List eX):List Order:=
 s.ak.mapIdx λo x=>{x with aH:=x.aH.mapIdx λk y=>{y with eU:=y.eU+(dD s.aA o k b - dD l o k b)}}
def Oh(s:aI)(b:Int)(l:List eX):aI:={s with aA:=l,ak:=hdO s b l}
section
variable {s:aI} {b:Int} {l:List eX}
theorem ja7(o:Nat):(hdO s b l)[o]?=s.ak[o]?.map λx=>{x with aH:=x.aH.mapIdx λk y=>{y with eU:=y.eU+(dD s.aA o k b - dD l o k b)}}:=by
 unfold hdO;rw[qF]
theorem Tf:(hdO s b l).length=s.ak.length:=by simp[hdO]
theorem Ui{o:Nat}(ho:o<s.ak.length):(Oh s b l).aC o={s.aC o with aH:=(s.aC o).aH.mapIdx λk y=>{y with eU:=y.eU+(dD s.aA o k b - dD l o k b)}}:=by
 unfold aI.aC bK Oh;simp only[fK,ja7,bQ ho]
 rfl
theorem Uj{o:Nat}(ho:o<s.ak.length):((Oh s b l).aC o).aH.length=(s.aC o).aH.length:=by rw[Ui ho];simp
theorem jcY{o k:Nat}(ho:o<s.ak.length)(hk:k<(s.aC o).aH.length):(Oh s b l).aK o k={s.aK o k with eU:=(s.aK o k).eU+(dD s.aA o k b - dD l o k b)}:=by
 unfold aI.aK;rw[Ui ho,qw (by simpa using hk),qw hk]
 simp
theorem jhg{l':List eX}(h:∀o k:Nat,dD l' o k b=dD l o k b):hdO s b l'=hdO s b l:=by
 unfold hdO;simp only[h]
theorem jjJ:hdO s b s.aA=s.ak:=by
 have e:∀x:List Line,(x.mapIdx λ_ y=>y)=x:=λx=>by
  apply ng;intro i;simp
 have e2:∀x:List Order,(x.mapIdx λ_ y=>y)=x:=λx=>by
  apply ng;intro i;simp
 unfold hdO;simp only[Int.sub_self,je,e,e2]
theorem jjI:Oh s b s.aA=s:=by unfold Oh;rw[jjJ]
theorem jjH(hn:(l.map yg).Nodup){j:Nat}(hj:j<l.length){o k:Nat}{m:Int}(h1:l[j].aC=o)(h2:l[j].aK=k)(h3:l[j].bin=b)(ho:o<s.ak.length)(hk:k<(s.aC o).aH.length):
  Oh s b (l.set j {l[j]with n:=l[j].n - m})=({Oh s b l with aA:=l.set j {l[j]with n:=l[j].n - m}}:aI).mD o k {(Oh s b l).aK o k with eU:=((Oh s b l).aK o k).eU+m}:=by
 have hka:=Ez hn hj;rw[h1,h2,h3]at hka
 have yg:∀o' k':Nat,dD (l.set j {l[j]with n:=l[j].n - m}) o' k' b=dD l o' k' b - (if o'=o/\k'=k then m else 0):=λo' k'=>by
  rw[Xn hn hj,h1,h2,h3];by_cases h:o'=o/\k'=k
  ·obtain⟨rfl,rfl⟩:=h;rw[aB ⟨rfl,rfl,rfl⟩,aB ⟨rfl,rfl⟩,hka]
  ·rw[au (λhh=>h ⟨by omega,by omega⟩),au h]
   omega
 have hord:(({Oh s b l with aA:=l.set j {l[j]with n:=l[j].n - m}}:aI)).aC o=(Oh s b l).aC o:=rfl
 unfold aI.mD;rw[hord];unfold Oh;simp only[aI.mk.injEq,oJ,ni];apply ng;intro o';rw[ja7,qm]
 by_cases he:o=o'
 ·subst he;rw[aB rfl,aB (by rw[Tf];exact ho),bQ ho]
  have e0:s.aC o=s.ak[o]:=by unfold aI.aC;rw[uO ho]
  have e1:aI.aC {s with aA:=l,ak:=hdO s b l} o={s.aC o with aH:=(s.aC o).aH.mapIdx λk y=>{y with eU:=y.eU+(dD s.aA o k b - dD l o k b)}}:=Ui ho
  have e2:aI.aK {s with aA:=l,ak:=hdO s b l} o k={s.aK o k with eU:=(s.aK o k).eU+(dD s.aA o k b - dD l o k b)}:=jcY ho hk
  rw[e1,e2];simp only[jr,mZ,Order.mk.injEq];refine⟨by rw[e0],?_⟩
  apply ng;intro k';rw[qF,qm,qF,<- e0]
  by_cases hke:k=k'
  ·subst hke;rw[aB rfl,aB (by simpa using hk),bQ hk,yg o k,aB ⟨rfl,rfl⟩]
   have:s.aK o k=(s.aC o).aH[k]:=by unfold aI.aK;rw[qw hk]
   rw[this];simp only[jr,mZ,Line.mk.injEq,oJ];omega
  ·rw[au hke];cases hq:(s.aC o).aH[k']? with
   |none=>rfl
   |some y=>
    simp only[jr];rw[yg o k',au (λh=>hke h.2.symm)]
    simp
 ·rw[au he,ja7];cases hq:s.ak[o']? with
  |none=>rfl
  |some x=>
   simp only[jr,mZ,Order.mk.injEq,oJ];apply ng;intro k';rw[qF,qF]
   cases hq2:x.aH[k']? with
   |none=>rfl
   |some y=>
    simp only[jr];rw[yg o' k',au (λh=>he h.1.symm)]
    simp
end
theorem jhv{p:dG}{s:aI}{b g:Nat}{jy:Int}(hs:pz p s):
  let s1:aI:={s with on:=setCell s.on b g jy,dB:=s.dB.set g (aZ s.dB g+jy - cell s.on b g),aF:=(Ju b g).rest s.aF (bound s b g - jy)}
  xk s b g jy (over s b g jy)=Oh s1 b ((yM s1 b g).rest s1.aA ((Ju b g).mid s.aF (bound s b g - jy) 0).2):=by
 intro s1;have hm:=LK hs b g;have hh:=Jc hs b g;have hC:yM s1 b g=yM s b g:=rfl;have h1:zl s b g (over s b g jy)=(Ju b g).rest s.aF (bound s b g - jy):=by
  unfold zl over;rw[iw.WE hm (bound s b g - jy)]
 have hov:=iw.Kw (λx hx=>by have:=hm x hx;omega) (bound s b g - jy) (C:=Ju b g) (l:=s.aF)
 have h2:pW s b g (over s b g jy)=(yM s1 b g).rest s1.aA ((Ju b g).mid s.aF (bound s b g - jy) 0).2:=by
  rw[hC,iw.mid_zero,hov];unfold pW over;rw[<- Ht,iw.WE hh,iw.WE hh (bound s b g - jy - _)];congr 1
  have:=iw.FI (C:=Ju b g) (l:=s.aF) λx hx=>by have:=hm x hx;omega
  omega
 unfold Oh xk;rw[<- h2,h1];rfl
def QK(p:dG)(b:Int)(n:Nat->Nat->Int):List Nat->aI->aI
 |[],s=>s
 |q::r,s=>QK p b n r (qM p s (q / 3) (q%3) (n (q / 3) (q%3)) b).1
section
variable {p:dG} {b:Int} {n:Nat→Nat→Int}
theorem NQ(l r:List Nat)(s:aI):QK p b n (l++r) s=QK p b n r (QK p b n l s):=by
 induction l generalizing s with
 |nil=>rfl
 |cons q l ih=>exact ih _
theorem Wn(s:aI)(o k:Nat):(qM p s o k 0 b).1=s:=by
 have:qM p s o k 0 b=(s,0):=KQ (by omega)
 rw[this]
theorem jbo(f:Nat->Bool)(hf:∀q,f q=false->n (q / 3) (q%3)=0)(l:List Nat)(s:aI):QK p b n (l.filter f) s=QK p b n l s:=by
 induction l generalizing s with
 |nil=>rfl
 |cons q l ih=>
  cases h:f q
  ·rw[kZ (by simp[h]),ih]
   show _=QK p b n l (qM p s (q / 3) (q%3) (n (q / 3) (q%3)) b).1;rw[hf q h,Wn]
  ·rw[jC h];exact ih _
theorem jdz(o m:Nat)(hm:m<=3)(s:aI):QK p b n ((List.range m).map λk=>o*3+k) s=zD p o b (n o) m s:=by
 induction m with
 |zero=>rfl
 |succ m ih=>
  rw[nU,gJ,NQ,ih (by omega)]
  show(qM p (zD p o b (n o) m s) ((o*3+m) / 3) ((o*3+m)%3) (n ((o*3+m) / 3) ((o*3+m)%3)) b).1=(qM p (zD p o b (n o) m s) o m (n o m) b).1;rw[show(o*3+m) / 3=o by omega,show(o*3+m)%3=m by omega]
theorem jb5(m:Nat):List.range ((m+1)*3)=List.range (m*3)++(List.range 3).map λk=>m*3+k:=by
 have h:(m+1)*3=m*3+3:=by omega
 rw[h,List.range_add]
theorem Pq{o m:Nat}{f:Nat->Int}{s:aI}:∀d,(∀k,m<=k->f k=0)->zD p o b f (m+d) s=zD p o b f m s
 |0,_=>rfl
 |d+1,h=>by
  show(qM p (zD p o b f (m+d) s) o (m+d) (f (m+d)) b).1=_;rw[h (m+d) (by omega),Wn,Pq d h]
theorem Z8{s:aI}(hl:∀o,o<s.ak.length->(s.aC o).aH.length<=3)(hz:∀o k,(s.aC o).aH.length<=k->n o k=0)(lZ:∀m o,m<=s.ak.length->((BZ p b n m s).aC o).aH.length=(s.aC o).aH.length):
  ∀m,m<=s.ak.length->QK p b n (List.range (m*3)) s=BZ p b n m s
 |0,_=>rfl
 |m+1,hm=>by
  rw[jb5,NQ,Z8 hl hz lZ m (by omega),jdz m 3 (ay _)]
  show _=zD p m b (n m) ((BZ p b n m s).aC m).aH.length (BZ p b n m s);rw[lZ m m (by omega)]
  obtain⟨d,hd⟩:∃d,3=(s.aC m).aH.length+d:=⟨3 - (s.aC m).aH.length,by have:=hl m (by omega);omega⟩
  rw[hd,Pq d λk hk=>hz m k hk]
end
section
variable {p:dG} {s:aI} {b g:Nat} {jy t:Int}
theorem U6(hs:pz p s)(ht:t<=mF s.aF b g):pW s b g t=s.aA:=iw.rest_none (Jc hs b g) (by omega)
theorem Vu{t':Int}(h:∀o k:Int,rF s b g t' o k=rF s b g t o k):Ba s b g t'=Ba s b g t:=by
 unfold Ba;simp only[h]
theorem jf2{l:List Move}(h:∀x∈l,¬(x.src=(b:Int)/\x.dW=(g:Int))):mF l b g=0:=by
 unfold mF;induction l with
 |nil=>rfl
 |cons x r ih=>
  rw[dJ,iL,ih λy hy=>h y (aY _ hy)]
  unfold BI;rw[au (h x (bW ..))];rfl
theorem jeo(hs:pz p s)(ht:0<=t){k:Nat}(hk:k<(zl s b g t).length)(h1:(bZ (zl s b g t) k).src=b/\(bZ (zl s b g t) k).dW=g)(h2:∀j,k<j->j<(zl s b g t).length->¬((bZ (zl s b g t) j).src=b/\(bZ (zl s b g t) j).dW=g)):
  xk s b g jy (t+1)={xk s b g jy t with aF:=if(bZ (zl s b g t) k).n=1 then(zl s b g t).eraseIdx k else(zl s b g t).set k {bZ (zl s b g t) k with n:=(bZ (zl s b g t) k).n - 1}}/\(∀o k:Int,rF s b g (t+1) o k=rF s b g t o k):=by
 have hp:=LK hs b g;have kQ:=iw.Iz hp t;have wU:0<(Ju b g).all (zl s b g t):=by
  have:=iw.VT (iw.Oy hp t);have hany:((Ju b g).rest s.aF t).any (Ju b g).is=true:=kU.2 ⟨(zl s b g t)[k],dh hk,by rw[SH,<- pJ hk];exact h1⟩
  rw[hany]at this
  exact rY this.symm
 change(Ju b g).all (zl s b g t)=_ at kQ
 rw[Ht]at kQ
 rw[Ht]at wU
 have hm:=yP hs b g;have hlt:t+1<=mF s.aF b g:=by rw[Ht]at kQ;omega
 have e1:zl s b g (t+1)=(Ju b g).dec (zl s b g t):=iw.Zr hp ht (by rw[Ht];exact hlt)
 have e2:=iw.jfs (C:=Ju b g) hk (by rw[SH,<- pJ hk];exact h1) (λj hj hkj=>by
  cases hi:(Ju b g).is (zl s b g t)[j]
  ·rfl
  ·rw[SH,<- pJ hj]at hi
   exact absurd hi (h2 j hkj hj))
 rw[<- pJ hk]at e2
 have e3:pW s b g (t+1)=pW s b g t:=by rw[U6 hs hlt,U6 hs (by omega)]
 have e4:∀o k:Int,rF s b g (t+1) o k=rF s b g t o k:=λo k=>by unfold rF;rw[e3]
 refine⟨?_,e4⟩
 refine aI.ext' rfl (Vu e4) e3 ?_ rfl rfl rfl
 show zl s b g (t+1)=_;rw[e1,e2];rfl
theorem jcG{l:List eX}(hl:iI l=true){k:Nat}(hk:k<l.length):dD l (hold l k).aC (hold l k).aK (hold l k).bin=(hold l k).n:=by
 obtain⟨h1,h2⟩:=gI.1 hl;rw[iZ hk];exact Ed h1 h2 (dh hk)
theorem jk0{l:List eX}(hl:iI l=true){k:Nat}(hk:k<l.length)(m:Int):jE l {hold l k with n:=m}=if m=0 then l.eraseIdx k else l.set k {hold l k with n:=m}:=by
 have hp:pos l (hold l k)=k:=pos_eq (iQ hk) (λi hi=>jco hl hi hk) (λ_=>Int.le_of_eq (IC.2 ⟨rfl,rfl,rfl⟩).symm)
 have hf:Ap l (hold l k)=true:=zB.2 ⟨by rw[hp];exact hk,by rw[hp];exact IC.2 ⟨rfl,rfl,rfl⟩⟩
 have yg:=I5 hl hk;split
 ·rename_i h0
  rw[Za hl (h:={hold l k with n:=m}) yg h0 (by rw[jbh];exact hf),jiF,hp]
 ·rename_i h0
  rw[Y9 hl (h:={hold l k with n:=m}) yg h0 (by rw[jbh];exact hf),jiF,hp]
theorem jep(hs:pz p s)(ht:0<=t)(h0:∀x∈zl s b g t,¬(x.src=(b:Int)/\x.dW=(g:Int))){k:Nat}(hk:k<(pW s b g t).length)
  (h1:(yM s b g).is (hold (pW s b g t) k)=true) (h2:∀j,k<j->j<(pW s b g t).length->(yM s b g).is (hold (pW s b g t) j)=false) {i j:Nat} (hi:(hold (pW s b g t) k).aC=i) (hj:(hold (pW s b g t) k).aK=j) (hio:i<s.ak.length) (hjl:j<(s.aC i).aH.length):
  xk s b g jy (t+1)=({xk s b g jy t with aA:=jE (pW s b g t) {hold (pW s b g t) k with n:=(hold (pW s b g t) k).n - 1}}:aI).mD i j {(xk s b g jy t).aK i j with eU:=((xk s b g jy t).aK i j).eU+1}/\
  ∀o k:Nat,rF s b g (t+1) o k=rF s b g t o k+if o=i/\k=j then 1 else 0:=by
 have hok:=Kz hs b g t;have jcV:=iw.Iz (LK hs b g) t;change(Ju b g).all (zl s b g t)=_ at jcV
 rw[Ht,Ht,jf2 h0]at jcV
 have hm:=yP hs b g;have hge:mF s.aF b g<=t:=by omega
 have hp:=Jc hs b g;have kQ:=iw.Iz hp (t - mF s.aF b g);have wU:0<(yM s b g).all (pW s b g t):=by
  have:=iw.VT (iw.Oy hp (t - mF s.aF b g));have hany:((yM s b g).rest s.aA (t - mF s.aF b g)).any (yM s b g).is=true:=kU.2 ⟨(pW s b g t)[k],dh hk,by rw[<- iZ hk];exact h1⟩
  rw[hany]at this
  exact rY this.symm
 change(yM s b g).all (pW s b g t)=_ at kQ
 have e0:t+1 - mF s.aF b g=(t - mF s.aF b g)+1:=by omega
 have e1:pW s b g (t+1)=(yM s b g).dec (pW s b g t):=by
  show(yM s b g).rest s.aA (t+1 - mF s.aF b g)=_;rw[e0];exact iw.Zr hp (by omega) (by omega)
 have e2:=iw.jfs (C:=yM s b g) hk (by rw[<- iZ hk];exact h1) (λj hj hkj=>by rw[<- iZ hj];exact h2 j hkj hj)
 rw[<- iZ hk]at e2
 have e3:pW s b g (t+1)=jE (pW s b g t) {hold (pW s b g t) k with n:=(hold (pW s b g t) k).n - 1}:=by
  rw[e1,e2,jk0 hok hk];show(if(hold (pW s b g t) k).n=1 then _ else _)=_
  by_cases hz:(hold (pW s b g t) k).n=1
  ·rw[aB hz,aB (by omega)]
  ·rw[au hz,au (by omega)]
   rfl
 have e4:zl s b g (t+1)=zl s b g t:=by
  show((Ju b g).cut s.aF (t+1)).1.filter _=((Ju b g).cut s.aF t).1.filter _;rw[iw.Tt (λx hx=>by have:=LK hs b g x hx;omega) (by rw[Ht];omega),iw.Tt (λx hx=>by have:=LK hs b g x hx;omega) (by rw[Ht];omega)]
 have yg:=I5 hok hk;have jc4:=(FX.1 h1).1;have hn:=jgP hok hk;have e5:∀o k':Nat,rF s b g (t+1) o k'=rF s b g t o k'+if o=i/\k'=j then 1 else 0:=λo k'=>by
  unfold rF;rw[e3,FW (h:={hold (pW s b g t) k with n:=(hold (pW s b g t) k).n - 1}) hok yg (by simp only;omega)]
  have hkh:=jcG hok hk;simp only;rw[hi,hj,jc4]at hkh ⊢
  by_cases hq:o=i/\k'=j
  ·obtain⟨rfl,rfl⟩:=hq;rw[aB ⟨rfl,rfl,rfl⟩,aB ⟨rfl,rfl⟩,hkh];omega
  ·rw[au (by omega),au hq]
   omega
 refine⟨?_,e5⟩
 have lZ:(xk s b g jy t).ak.length=s.ak.length:=uS;refine aI.ext' rfl ?_ e3 e4 rfl rfl rfl
 show Ba s b g (t+1)=(Ba s b g t).set i {(xk s b g jy t).aC i with aH:=((xk s b g jy t).aC i).aH.set j {(xk s b g jy t).aK i j with eU:=((xk s b g jy t).aK i j).eU+1}}
 rw[Fa hio hjl,Qi i hio];unfold Ba;apply qL
 ·simp
 ·intro a ha1 ha2;have ha:a<s.ak.length:=by simpa using ha1
  rw[lN,AO];have ea:s.aC a=s.ak[a]:=uO ha;by_cases hai:i=a
  ·subst hai;rw[aB rfl,ea];simp only[Order.mk.injEq,oJ];rw[ea]at hjl
   apply qL
   ·simp
   ·intro c hc1 hc2;have hc:c<s.ak[i].aH.length:=by simpa using hc1
    rw[lN,AO,e5];by_cases hcj:j=c
    ·subst hcj;have el:s.aK i j=s.ak[i].aH[j]:=by unfold aI.aK;rw[ea,qw hc]
     rw[aB rfl,aB ⟨rfl,rfl⟩,el];simp only[Line.mk.injEq,oJ];omega
    ·rw[au hcj,au (by omega),lN,je]
  ·rw[au hai,lN];simp only[Order.mk.injEq,oJ];apply qL
   ·simp
   ·intro c hc1 hc2;rw[lN,lN,e5,au (by omega),je]
theorem jen(hs:pz p s)(ht:0<=t)(hlt:t<bound s b g)(h0:∀x∈zl s b g t,¬(x.src=(b:Int)/\x.dW=(g:Int))):((pW s b g t).any (yM s b g).is)=true:=by
 have jcV:=iw.Iz (LK hs b g) t;change(Ju b g).all (zl s b g t)=_ at jcV
 rw[Ht,Ht,jf2 h0]at jcV
 have hp:=Jc hs b g;have hm:=yP hs b g;have kQ:=iw.Iz hp (t - mF s.aF b g);have:=iw.VT (iw.Oy hp (t - mF s.aF b g));show((yM s b g).rest s.aA (t - mF s.aF b g)).any (yM s b g).is=true;rw[this,kQ,je4];unfold bound pO at hlt
 exact oD (by omega)
end
section
variable {p:dG} {s:aI} {b g:Nat} {jy:Int}
theorem jkC(h:lu p s)(f:Bh p s b g jy)(v:Int):pz p (xk s b g jy v):=by
 have hs:=h.sane;have hbl:b<s.on.length:=by rw[hs.sO];exact f.hb
 have hgl:g<(fO s.on b).length:=by rw[hs.rowLen f.hb];exact f.hg
 have hfl:g<s.dB.length:=by rw[hs.dB.1];exact f.hg
 refine pz.of ?_ (by rw[uS];exact hs.nX) ?_ (λo ho=>?_) (λo k ho hk=>?_) (Kz hs b g v) (λx hx=>?_) (λx hx=>?_)
  (eG.1 hs.form).2.2.2.2.1 (eG.1 hs.form).2.2.2.2.2.1 (Na (eG.1 hs.form).2.2.2.2.2.2 hfl f.f0 f.f1)
 ·exact jR.2 ⟨hs.plan,Nc (jR.1 hs.shelf).2 ⟨f.s0,f.s1⟩ f.hb f.hg⟩
 ·refine aU (aU (kR _ _) ?_) hs.uf
  rw[iw.RQ];exact ay _
 ·rw[uS]at ho
  rw[rX o ho,ML o ho];exact⟨hs.rE ho,hs.eH ho⟩
 ·rw[uS]at ho
  rw[rX o ho]at hk
  have hl:=hs.aK ho hk;have h1:=(h.BU ho hk).1;have h2:=Eo hs b g v o k;have h3:=(wH hs.aA o k).1;rw[Fa ho hk,rO];simp only;refine⟨hl.1,hl.2.1,hl.2.2.1,?_⟩
  split at h1<;>omega
 ·obtain⟨y,hy,e,_,_,_⟩:=iw.JU (Jc hs b g) _ x hx;have e':x={y with n:=x.n}:=e
  have h1:=og.1 (bJ.1 (eG.1 hs.form).2.2.1 y hy);obtain⟨i,hi,rfl⟩:=bg hy;have h2:=hs.yL hi;rw[iZ hi]at h2
  rw[e'];exact og.2 ⟨by rw[uS];exact h1.1,by rw[rX _ (by show(s.aA[i]).aC.toNat<_;omega)];exact h1.2.1,h1.2.2⟩
 ·obtain⟨y,hy,e,a,a',_⟩:=iw.JU (LK hs b g) _ x hx;have e':x={y with n:=x.n}:=e
  have h1:=Hu.1 (bJ.1 (eG.1 hs.form).2.2.2.1 y hy);change 1<=x.n at a
  change x.n<=y.n at a'
  rw[e'];exact Hu.2 ⟨h1.1,h1.2.1,h1.2.2.1,h1.2.2.2.1,a,by show x.n<=200;omega⟩
theorem jbn(h:lu p s){t:Int}(h0:0<=t)(h1:t<=bound s b g):bound (xk s b g jy t) b g=bound s b g - t:=Po h.sane h0 h1
theorem ER{t:Int}{x:eX}(ho:x.aC.toNat<s.ak.length)(hk:x.aK.toNat<(s.aC x.aC.toNat).aH.length):(yM (xk s b g jy t) b g).is x=(yM s b g).is x:=by
 have e:((xk s b g jy t).aK x.aC.toNat x.aK.toNat).dW=(s.aK x.aC.toNat x.aK.toNat).dW:=by rw[Fa ho hk]
 cases h1:(yM s b g).is x
 ·cases h2:(yM (xk s b g jy t) b g).is x
  ·rfl
  ·rw[FX,e]at h2
   rw[FX.2 h2]at h1
   cases h1
 ·rw[FX]at h1 ⊢
  rw[e];exact h1
end
def jht(n:Nat):List Nat:=if n<10 then [48+n]else digits n
theorem VP(n:Nat):digits n=jht n:=by
 unfold jht;split
 ·rw[zX,aB (by assumption)]
 ·rfl
def jly(s:List Nat):Int:=if 1<=s.length/\s.length<=6/\s.all isDigit=true/\jht (valOf s)=s then valOf s else -1
theorem jlx(s:List Nat):J3 s=jly s:=by
 unfold J3 jly;rw[VP]
def jf0:List (List Nat)->Option (List Int)
 |[]=>some []
 |w::r=>if jly w<0 then none else(jf0 r).map (jly w::·)
theorem jcq:∀l,zi l=jf0 l
 |[]=>rfl
 |w::r=>by rw[zi,jf0,jcq r,jlx]
def L6(e:Int):List Nat:=jap++32::jht e.toNat
theorem jb3(e:Int):refused e=L6 e:=by
 unfold refused L6;rw[VP]
def VK:List Int->List Nat
 |[]=>[]
 |[n]=>jht n.toNat
 |n::r=>jht n.toNat++32::VK r
theorem Xi:∀l,lJ l=VK l
 |[]=>rfl
 |[n]=>VP _
 |n::m::r=>by
  have:=Xi (m::r);simp only[lJ,VK]at this ⊢
  rw[this,VP]
def jak(p:dG)(s:aI)(op:List Nat)(r:List (List Nat)):aI×List Nat:=
 match jf0 r with
 |none=>(s,L6 1)
 |some l=>match xq op l with
  |some x=>if(act p s x).2=0 then((act p s x).1,wOk)else(s,L6 (act p s x).2)
  |none=>match nD p s op l with
   |none=>(s,L6 1)
   |some (o,e)=>if e=0 then(s,VK o)else(s,L6 e)
theorem jgy(p:dG)(s:aI)(op:List Nat)(r:List (List Nat)):rM p s op r=jak p s op r:=by
 unfold rM jak;simp only[jcq,jb3,Xi];first|done|rfl
def jaQ(p:dG):List (List Nat)->aI->List Nat
 |[],_=>[]
 |t::r,s=>(jak p s ((splitB 32 t).headD []) (splitB 32 t).tail).2++10::jaQ p r (jak p s ((splitB 32 t).headD []) (splitB 32 t).tail).1
theorem ZE(p:dG):∀l s,wG p l s=jaQ p l s
 |[],_=>rfl
 |t::r,s=>by
  unfold wG jaQ EJ;rw[jgy,ZE p r]
def script:List Nat:=[114,101,99,101,105,118,101,32,48,32,48,32,57,10,114,101,99,101,105,118,101,32,49,32,48,32,51,10,101,110,116,101,114,32,48,32,55,32,49,32,50,10,114,101,108,101,97,115,101,10,104,111,108,100,115,10,112,105,99,107,32,48,32,48,32,49,32,51,10,102,105,108,108,10,109,111,118,101,115,10,109,111,118,101,100,32,48,32,53,10,115,104,101,108,102,32,49,10,111,114,100,101,114,32,48,10,111,112,101,110,10,99,111,117,110,116,32,48,32,48,32,50,10,104,111,108,100,115,10,99,97,110,99,101,108,32,48,10,111,112,101,110,10,115,104,101,108,102,32,51,10,120,10]
def told:List Nat:=[111,107,10,111,107,10,111,107,10,111,107,10,48,32,48,32,48,32,52,32,48,32,48,32,49,32,51,10,111,107,10,111,107,10,48,32,48,32,49,32,53,10,111,107,10,53,32,48,10,49,32,55,32,51,32,48,32,50,32,48,32,50,10,49,10,111,107,10,48,32,48,32,48,32,50,32,48,32,48,32,49,32,50,10,111,107,10,48,10,101,114,114,111,114,32,52,10,101,114,114,111,114,32,49,10]
theorem jk5:jaQ VU (splitB 10 script).dropLast (begin VU)=told:=by decide+kernel
theorem jel:CS VU script=(told,0):=by
 unfold CS;rw[au (by decide+kernel),au (by decide+kernel),au (by decide+kernel),ZE,jk5]
end Wh
namespace Wh
open Go Go.RowKit
section
inductive CX where
 |one
 |two
def Uy:aI->Option Addr->Nat->Option Addr->Nat->Option Addr->Nat->Option Addr->Nat->Option Addr->Nat->Option Addr->Nat->Option Addr->Nat->CX:=λ_ _ _ _ _ _ _ _ _ _ _ _ _ _ _=>.one
def kV:aI->Option Addr->Nat->Option Addr->Nat->Option Addr->Nat->Option Addr->Nat->Option Addr->Nat->Option Addr->Nat->Option Addr->Nat->CX:=λ_ _ _ _ _ _ _ _ _ _ _ _ _ _ _=>.one
def xu:dG->Option Addr->Nat->Option Addr->Nat->CX:=λ_ _ _ _ _=>.one
def kD:dG->Option Addr->Nat->Option Addr->Nat->CX:=λ_ _ _ _ _=>.one
def Vh:eX->CX:=λ_=>.one
def nC:eX->CX:=λ_=>.one
def Vg:Line->CX:=λ_=>.one
def xZ:Line->CX:=λ_=>.one
def jdR:Move->CX:=λ_=>.one
def IE:Move->CX:=λ_=>.one
def rV:Nat->Value->CX:=λ_ _=>.one
instance instaState(s:aI)(A0:Option Addr)(c0:Nat)(A1:Option Addr)(c1:Nat)(A2:Option Addr)(c2:Nat)(A3:Option Addr)(c3:Nat)(A4:Option Addr)(c4:Nat)(A5:Option Addr)(c5:Nat)(A6:Option Addr)(c6:Nat):CoeDep CX (Uy s A0 c0 A1 c1 A2 c2 A3 c3 A4 c4 A5 c5 A6 c6) (Array Value):=⟨#[.slice A0 s.on.length c0,.slice A1 s.ak.length c1,.slice A2 s.aA.length c2,.slice A3 s.aF.length c3,.slice A4 s.jf.length c4,.slice A5 s.O.length c5,.slice A6 s.dB.length c6]⟩
instance instoState(s:aI)(A0:Option Addr)(c0:Nat)(A1:Option Addr)(c1:Nat)(A2:Option Addr)(c2:Nat)(A3:Option Addr)(c3:Nat)(A4:Option Addr)(c4:Nat)(A5:Option Addr)(c5:Nat)(A6:Option Addr)(c6:Nat):CoeDep CX (kV s A0 c0 A1 c1 A2 c2 A3 c3 A4 c4 A5 c5 A6 c6) Obj:=⟨(.cells #[.slice A0 s.on.length c0,.slice A1 s.ak.length c1,.slice A2 s.aA.length c2,.slice A3 s.aF.length c3,.slice A4 s.jf.length c4,.slice A5 s.O.length c5,.slice A6 s.dB.length c6] 40)⟩
instance instaPlan(p:dG)(Ab:Option Addr)(cb:Nat)(As:Option Addr)(cs:Nat):CoeDep CX (xu p Ab cb As cs) (Array Value):=⟨#[.slice Ab p.dP.length cb,.slice As p.aW.length cs]⟩
instance instoPlan(p:dG)(Ab:Option Addr)(cb:Nat)(As:Option Addr)(cs:Nat):CoeDep CX (kD p Ab cb As cs) Obj:=⟨(.cells #[.slice Ab p.dP.length cb,.slice As p.aW.length cs] 25)⟩
instance instaHold(x:eX):CoeDep CX (Vh x) (Array Value):=⟨#[.int .i64 (x).aC,.int .i64 (x).aK,.int .i64 (x).bin,.int .i64 (x).n]⟩
instance instoHold(x:eX):CoeDep CX (nC x) Obj:=⟨(.cells #[.int .i64 (x).aC,.int .i64 (x).aK,.int .i64 (x).bin,.int .i64 (x).n] 116)⟩
instance instaLine(x:Line):CoeDep CX (Vg x) (Array Value):=⟨#[.int .i64 (x).dW,.int .i64 (x).jk,.int .i64 (x).qI,.int .i64 (x).eU]⟩
instance instoLine(x:Line):CoeDep CX (xZ x) Obj:=⟨(.cells #[.int .i64 (x).dW,.int .i64 (x).jk,.int .i64 (x).qI,.int .i64 (x).eU] 106)⟩
instance instaMove(x:Move):CoeDep CX (jdR x) (Array Value):=⟨#[.int .i64 (x).dW,.int .i64 (x).src,.int .i64 (x).dst,.int .i64 (x).n]⟩
instance instoMove(x:Move):CoeDep CX (IE x) Obj:=⟨(.cells #[.int .i64 (x).dW,.int .i64 (x).src,.int .i64 (x).dst,.int .i64 (x).n] 118)⟩
instance instrV(n:Nat)(v:Value):CoeDep CX (rV n v) ((Nat->Value)->World->Prop):=⟨λg _=>g n=v⟩
theorem dY(k:IntKind)(n:Int):RowKit.intOf (.int k n)=n:=rfl
end
end Wh
