/- Texts of the claim, joined. -/
import Derived.Test.YtfhfkijmebhgmaaGreatK03
set_option maxHeartbeats 20000000
set_option maxRecDepth 100000
namespace Wh
structure gX(α:Type) where
 is:α->Bool
 num:α->Int
 put:α->Int->α
 JO:∀x n,num (put x n)=n
 jhU:∀x n,is (put x n)=is x
 jkr:∀x n m,put (put x n) m=put x m
 ZB:∀x,put x (num x)=x
namespace gX
variable {α:Type} (C:gX α)
def part(x:α):Int:=if C.is x=true then C.num x else 0
def all(l:List α):Int:=(l.map C.part).sum
def less(v n:Int):Int:=min n (max v 0)
def cut:List α->Int->List α×Int
 |[],v=>([],v)
 |x::r,v=>if C.is x=true then(C.put x (C.num x - less (cut r v).2 (C.num x))::(cut r v).1,(cut r v).2 - less (cut r v).2 (C.num x))else(x::(cut r v).1,(cut r v).2)
def keep(x:α):Bool:=!decide (C.num x=0)
def rest(l:List α)(v:Int):List α:=(C.cut l v).1.filter C.keep
def dec:List α->List α
 |[]=>[]
 |x::r=>if r.any C.is=true then x::dec r else if C.is x=true then(if C.num x=1 then r else C.put x (C.num x - 1)::r)else x::r
def Pos(l:List α):Prop:=∀x∈l,1<=C.num x
variable {C}
theorem Pos.cons{x:α}{r:List α}(h:C.Pos (x::r)):1<=C.num x/\C.Pos r:=⟨h x (dS ..),λy hy=>h y (bP _ hy)⟩
theorem all_cons(x:α)(r:List α):C.all (x::r)=C.part x+C.all r:=by unfold all;rw[dn,iI]
theorem EG{l:List α}(h:∀x∈l,0<=C.num x):0<=C.all l:=by
 induction l with
 |nil=>exact iM _
 |cons x r ih=>
  have h1:=h x (dS ..);have h2:=ih λy hy=>h y (bP _ hy)
  rw[all_cons];unfold part;split<;>omega
theorem Pos.nonneg{l:List α}(h:C.Pos l):0<=C.all l:=EG λx hx=>by have:=h x hx;omega
theorem U3{l:List α}(h:C.Pos l):l.any C.is=decide (0<C.all l):=by
 induction l with
 |nil=>rfl
 |cons x r ih=>
  obtain⟨h1,h2⟩:=h.cons;have h3:=h2.nonneg;rw[zk,ih h2,all_cons];unfold part;cases hx:C.is x
  ·simp
  ·simp
   omega
theorem DZ{x:α}(hx:C.is x=true)(r:List α)(v:Int):C.cut (x::r) v=(C.put x (C.num x - less (C.cut r v).2 (C.num x))::(C.cut r v).1,(C.cut r v).2 - less (C.cut r v).2 (C.num x)):=by rw[cut,aB hx]
theorem DK{x:α}(hx:C.is x=false)(r:List α)(v:Int):C.cut (x::r) v=(x::(C.cut r v).1,(C.cut r v).2):=by rw[cut,ay (by rw[hx];simp)]
theorem Jr{l:List α}(h:∀x∈l,0<=C.num x)(v:Int):(C.cut l v).2=v - min (max v 0) (C.all l):=by
 induction l with
 |nil=>show v=v - min (max v 0) 0;omega
 |cons x r ih=>
  have h1:=h x (dS ..);have hr:=λy hy=>h y (bP _ hy)
  have h2:=ih hr;have h3:=EG hr;rw[all_cons];unfold part;cases hx:C.is x
  ·rw[DK hx];simp only[iE,uH];omega
  ·rw[DZ hx];simp only[uf];unfold less;omega
theorem QO(l:List α)(v:Int):(C.cut l v).1.length=l.length:=by
 induction l with
 |nil=>rfl
 |cons x r ih=>
  cases hx:C.is x
  ·rw[DK hx];simp[ih]
  ·rw[DZ hx];simp[ih]
theorem jlv{l:List α}(h:∀x∈l,0<=C.num x)(v:Int):C.all (C.cut l v).1=C.all l - min (max v 0) (C.all l):=by
 induction l with
 |nil=>show(0:Int)=0 - min (max v 0) 0;omega
 |cons x r ih=>
  have h1:=h x (dS ..);have hr:=λy hy=>h y (bP _ hy)
  have h2:=ih hr;have h3:=EG hr;have h4:=Jr hr v;rw[all_cons];cases hx:C.is x
  ·rw[DK hx];simp only;rw[all_cons];unfold part;rw[hx];simp only[iE,uH];omega
  ·rw[DZ hx];simp only;rw[all_cons];unfold part;rw[C.jhU,hx,C.JO];simp only[uf];unfold less;omega
theorem jfr{l:List α}(h:∀x∈l,0<=C.num x)(v:Int):∀y∈(C.cut l v).1,∃x∈l,y=C.put x (C.num y)/\0<=C.num y/\C.num y<=C.num x/\(C.is x=false->y=x):=by
 induction l with
 |nil=>intro y hy;simp[cut]at hy
 |cons x r ih=>
  have h1:=h x (dS ..);have hr:=λy hy=>h y (bP _ hy)
  intro y hy;cases hx:C.is x
  ·rw[DK hx]at hy
   rcases jM.1 hy with rfl|hy
   ·exact⟨y,dS ..,(C.ZB y).symm,h1,iM _,λ_=>rfl⟩
   ·obtain⟨z,hz,h2⟩:=ih hr y hy;exact⟨z,bP _ hz,h2⟩
  ·rw[DZ hx]at hy
   rcases jM.1 hy with rfl|hy
   ·refine⟨x,dS ..,?_,?_,?_,λh=>by rw[hx]at h;cases h⟩
    ·rw[C.JO]
    ·rw[C.JO];unfold less;omega
    ·rw[C.JO];unfold less;omega
   ·obtain⟨z,hz,h2⟩:=ih hr y hy;exact⟨z,bP _ hz,h2⟩
theorem Xc{l:List α}(h:∀x∈l,0<=C.num x){v:Int}(hv:v<=0):(C.cut l v).1=l:=by
 induction l with
 |nil=>rfl
 |cons x r ih=>
  have h1:=h x (dS ..);have hr:=λy hy=>h y (bP _ hy)
  have h2:=Jr hr v;have h3:=EG hr;cases hx:C.is x
  ·rw[DK hx,ih hr]
  ·rw[DZ hx,ih hr];simp only;have:less (C.cut r v).2 (C.num x)=0:=by unfold less;omega
   rw[this,qx,C.ZB]
theorem jlu{l:List α}(h:∀x∈l,0<=C.num x)(v:Int):(C.cut l v).1=(C.cut l (max v 0)).1:=by
 by_cases hv:v<=0
 ·rw[Xc h hv,Xc h (by omega)]
 ·rw[show max v 0=v by omega]
theorem RP{l:List α}(h:∀x∈l,0<=C.num x){v:Int}(hv:C.all l<=v):(C.cut l v).1=l.map λx=>if C.is x=true then C.put x 0 else x:=by
 induction l with
 |nil=>rfl
 |cons x r ih=>
  have h1:=h x (dS ..);have hr:=λy hy=>h y (bP _ hy)
  have h2:=Jr hr v;have h3:=EG hr;rw[all_cons]at hv
  unfold part at hv
  cases hx:C.is x
  ·rw[hx]at hv
   simp only[iE,uH]at hv
   rw[DK hx,ih hr (by omega),dn,hx]
   rfl
  ·rw[hx]at hv
   simp only[uf]at hv
   rw[DZ hx,ih hr (by omega),dn,hx]
   simp only[uf];have:less (C.cut r v).2 (C.num x)=C.num x:=by unfold less;omega
   rw[this,Int.sub_self]
theorem rest_none{l:List α}(h:C.Pos l){v:Int}(hv:v<=0):C.rest l v=l:=by
 unfold rest;rw[Xc (λx hx=>by have:=h x hx;omega) hv]
 refine oO.2 λx hx=>?_
 have:=h x hx;unfold keep;simp
 omega
theorem Vp{l:List α}(h:C.Pos l)(v:Int):C.rest l v=C.rest l (max v 0):=by
 unfold rest;rw[jlu (λx hx=>by have:=h x hx;omega)]
theorem ND{l:List α}(h:C.Pos l)(v:Int):C.Pos (C.rest l v):=λy hy=>by
 obtain⟨h1,h2⟩:=kH.1 hy;obtain⟨x,_,_,h3,_⟩:=jfr (λx hx=>by have:=h x hx;omega) v y h1
 unfold keep at h2
 simp at h2
 omega
theorem all_filter(l:List α):C.all (l.filter C.keep)=C.all l:=by
 induction l with
 |nil=>rfl
 |cons x r ih=>
  rw[lq,all_cons];split
  ·rw[all_cons,ih]
  ·rename_i hk
   unfold keep at hk
   simp at hk
   rw[ih];unfold part;rw[hk];split<;>omega
theorem GY{l:List α}(h:C.Pos l)(v:Int):C.all (C.rest l v)=C.all l - min (max v 0) (C.all l):=by
 unfold rest;rw[all_filter,jlv (λx hx=>by have:=h x hx;omega)]
theorem I7{l:List α}(h:C.Pos l)(v:Int):∀y∈C.rest l v,∃x∈l,y=C.put x (C.num y)/\1<=C.num y/\C.num y<=C.num x/\(C.is x=false->y=x):=λy hy=>by
 have h0:=ND h v y hy;obtain⟨x,h1,h2,_,h4⟩:=jfr (λx hx=>by have:=h x hx;omega) v y (kH.1 hy).1
 exact⟨x,h1,h2,h0,h4⟩
theorem Yz{l:List α}(h:C.Pos l){t:Int}(ht:0<=t)(hl:t+1<=C.all l):C.rest l (t+1)=C.dec (C.rest l t):=by
 induction l with
 |nil=>exact absurd hl (by show ¬t+1<=0;omega)
 |cons x r ih=>
  obtain⟨h1,hr⟩:=h.cons;have hr0:∀y∈r,0<=C.num y:=λy hy=>by have:=hr y hy;omega
  have a0:=Jr hr0 t;have a1:=Jr hr0 (t+1);have a2:=hr.nonneg;have hany:=U3 (ND hr t);rw[GY hr]at hany
  rw[all_cons]at hl
  unfold part at hl
  unfold rest at ih hany ⊢
  by_cases hA:t+1<=C.all r
  ·have jfk:((C.cut r t).1.filter C.keep).any C.is=true:=by rw[hany];simp;omega
   have ih':=ih hr hA;have hkx:C.keep x=true:=by unfold keep;simp;omega
   cases hx:C.is x
   ·rw[DK hx,DK hx];simp only;rw[jr hkx,jr hkx,dec,aB jfk,ih']
   ·rw[DZ hx,DZ hx];simp only;have e0:less (C.cut r t).2 (C.num x)=0:=by unfold less;omega
    have e1:less (C.cut r (t+1)).2 (C.num x)=0:=by unfold less;omega
    rw[e0,e1,qx,C.ZB,jr hkx,jr hkx,dec,aB jfk,ih']
  ·cases hx:C.is x
   ·rw[hx]at hl
    simp only[iE,uH]at hl
    omega
   ·rw[hx]at hl
    simp only[uf]at hl
    have jfk:((C.cut r t).1.filter C.keep).any C.is=false:=by rw[hany];simp;omega
    have e0:less (C.cut r t).2 (C.num x)=t - C.all r:=by unfold less;omega
    have e1:less (C.cut r (t+1)).2 (C.num x)=t+1 - C.all r:=by unfold less;omega
    have e2:(C.cut r (t+1)).1=(C.cut r t).1:=by rw[RP hr0 (by omega),RP hr0 (by omega)]
    rw[DZ hx,DZ hx];simp only;rw[e0,e1,e2];have hk0:C.keep (C.put x (C.num x - (t - C.all r)))=true:=by unfold keep;rw[C.JO];simp;omega
    rw[jr hk0,dec,ay (by rw[jfk];simp),C.jhU,aB hx,C.JO,C.jkr]
    by_cases hz:C.num x - (t - C.all r)=1
    ·rw[aB hz,lF (by unfold keep;rw[C.JO];simp;omega)]
    ·rw[ay hz,jr (by unfold keep;rw[C.JO];simp;omega)]
     congr 2
     omega
theorem jeu:∀ {l:List α} {k:Nat} (hk:k<l.length),C.is l[k]=true->(∀j (hj:j<l.length),k<j->C.is l[j]=false)->C.dec l=if C.num l[k]=1 then l.eraseIdx k else l.set k (C.put l[k] (C.num l[k] - 1))
 |x::r,0,_,h1,h2=>by
  have hany:r.any C.is=false:=by
   rw[qp];intro y hy;obtain⟨j,hj,rfl⟩:=aV hy;have:=h2 (j+1) (by simpa using hj) (by omega)
   simp at this
   simp[this]
  simp only[Ac]at h1 ⊢
  rw[dec,ay (by rw[hany];simp),aB h1]
  rfl
 |x::r,k+1,hk,h1,h2=>by
  have hk':k<r.length:=by simpa using hk
  simp only[rQ]at h1 ⊢
  have hany:r.any C.is=true:=lu.2 ⟨r[k],bU hk',h1⟩;rw[dec,aB hany,jeu hk' h1 (λj hj hkj=>by have:=h2 (j+1) (by simpa using hj) (by omega);simpa using this)]
  split
  ·rfl
  ·rfl
end gX
def Iq(b g:Int):gX Move:=⟨λx=>decide (x.src=b)&&decide (x.dh=g),(·.n),λx n=>{x with n:=n},λ_ _=>rfl,λ_ _=>rfl,λ_ _ _=>rfl,λ_=>rfl⟩
def yt(s:aJ)(b g:Int):gX dZ:=⟨λx=>decide (x.bin=b)&&decide ((s.aG x.aC.toNat x.aG.toNat).dh=g),(·.n),λx n=>{x with n:=n},λ_ _=>rfl,λ_ _=>rfl,λ_ _ _=>rfl,λ_=>rfl⟩
theorem Rj{b g:Int}{x:Move}:(Iq b g).is x=true↔x.src=b/\x.dh=g:=by simp[Iq]
theorem ES{s:aJ}{b g:Int}{x:dZ}:(yt s b g).is x=true↔x.bin=b/\(s.aG x.aC.toNat x.aG.toNat).dh=g:=by simp[yt]
theorem jkA(b g:Int)(x:Move):(Iq b g).part x=Aj b g x:=by
 unfold gX.part Aj;by_cases h:x.src=b/\x.dh=g
 ·rw[aB h,aB (Rj.2 h)];rfl
 ·rw[ay h,ay (λhh=>h (Rj.1 hh))]
theorem jk4(s:aJ)(b g:Int)(x:dZ):(yt s b g).part x=wX s b g x:=by
 unfold gX.part wX;by_cases h:x.bin=b/\(s.aG x.aC.toNat x.aG.toNat).dh=g
 ·rw[aB h,aB (ES.2 h)];rfl
 ·rw[ay h,ay (λhh=>h (ES.1 hh))]
theorem Gg(b g:Int)(l:List Move):(Iq b g).all l=lZ l b g:=by
 unfold gX.all lZ;congr 1
 exact oM λx _=>jkA b g x
theorem jd6(s:aJ)(b g:Int)(l:List dZ):(yt s b g).all l=(l.map (wX s b g)).sum:=by
 unfold gX.all;congr 1
 exact oM λx _=>jk4 s b g x
namespace gX
variable {α β:Type} {C:gX α}
theorem jfs(f:α->β)(hf:∀x n,f (C.put x n)=f x)(l:List α)(v:Int):(C.cut l v).1.map f=l.map f:=by
 induction l with
 |nil=>rfl
 |cons x r ih=>
  cases hx:C.is x
  ·rw[DK hx,dn,ih,dn]
  ·rw[DZ hx,dn,ih,dn,hf]
theorem jlt(F:α->Int)(hF:∀x n,C.is x=true->F (C.put x n)=F x)(l:List α)(v:Int):((C.cut l v).1.map F).sum=(l.map F).sum:=by
 induction l with
 |nil=>rfl
 |cons x r ih=>
  cases hx:C.is x
  ·rw[DK hx,dn,iI,ih,dn,iI]
  ·rw[DZ hx,dn,iI,ih,dn,iI,hF x _ hx]
theorem ja3(F:α->Int)(hF:∀x n,C.is x=true->F (C.put x n)=F x)(h0:∀x,C.num x=0->F x=0)(l:List α)(v:Int):((C.rest l v).map F).sum=(l.map F).sum:=by
 rw[<- jlt F hF l v];unfold rest;generalize (C.cut l v).1=m;induction m with
 |nil=>rfl
 |cons x r ih=>
  rw[lq];split
  ·rw[dn,iI,ih,dn,iI]
  ·rename_i hk
   have:C.num x=0:=by unfold keep at hk;simpa using hk
   rw[ih,dn,iI,h0 x this];omega
theorem jdk{l:List α}(h:C.Pos l)(v:Int){x:α}(hx:x∈l)(hi:C.is x=false):x∈C.rest l v:=by
 have hn:=h x hx;refine kH.2 ⟨?_,by unfold keep;simp;omega⟩
 clear hn;induction l with
 |nil=>simp at hx
 |cons y r ih=>
  rcases jM.1 hx with rfl|hx
  ·rw[DK hi];exact dS ..
  ·have:=ih h.cons.2 hx;cases hy:C.is y
   ·rw[DK hy];exact bP _ this
   ·rw[DZ hy];exact bP _ this
end gX
def yN(s:aJ)(b g v:Int):List Move:=(Iq b g).rest s.aF v
def pV(s:aJ)(b g v:Int):List dZ:=(yt s b g).rest s.aA (v - lZ s.aF b g)
def rH(s:aJ)(b g v:Int)(o k:Int):Int:=bW s.aA o k b - bW (pV s b g v) o k b
def zW(s:aJ)(b g v:Int):List Order:=s.ak.mapIdx λo x=>{x with aH:=x.aH.mapIdx λk y=>{y with dP:=y.dP+rH s b g v o k}}
def wM(s:aJ)(b g:Nat)(jq v:Int):aJ:=
 {on:=setCell s.on b g jq,ak:=zW s b g v,aA:=pV s b g v,aF:=yN s b g v,gY:=s.gY,O:=s.O,bg:=s.bg.set g (bI s.bg g+jq - cell s.on b g)}
section
variable {p:dA} {s:aJ} {b g:Nat} {jq v:Int}
theorem Kv(hs:o9 p s)(b g:Int):(Iq b g).Pos s.aF:=λx hx=>by
 obtain⟨i,hi,rfl⟩:=aV hx;have:=hs.bH hi;rw[pI hi]at this
 exact this.2.2.2.2.1
theorem HY(hs:o9 p s)(b g:Int):(yt s b g).Pos s.aA:=λx hx=>by
 have:=(nI.1 ((gG.1 hs.aA).1 x hx)).2.1;exact this
theorem Jt(hs:o9 p s)(b g v:Int):iD (pV s b g v)=true:=by
 obtain⟨h1,h2⟩:=gG.1 hs.aA;refine gG.2 ⟨λy hy=>?_,?_⟩
 ·obtain⟨x,hx,e,a,a',_⟩:=gX.I7 (HY hs b g) _ y hy;obtain⟨c1,c2,c3⟩:=nI.1 (h1 x hx);change 1<=y.n at a
  change y.n<=x.n at a'
  rw[e];exact nI.2 ⟨c1,a,by show y.n<=200;omega⟩
 ·unfold pV gX.rest JJ;refine tH _ ?_
  have e:=gX.jfs (C:=yt s b g) fP (λ_ _=>rfl) s.aA (v - lZ s.aF b g)
  have h3:(s.aA.map fP).Pairwise (·<·):=nY.2 h2
  rw[<- e]at h3
  exact nY.1 h3
theorem ML(hs:o9 p s)(b g v:Int)(o k b':Int):bW (pV s b g v) o k b'<=bW s.aA o k b'/\(¬(b'=b/\(s.aG o.toNat k.toNat).dh=g)->bW (pV s b g v) o k b'=bW s.aA o k b'):=by
 obtain⟨h1,h2⟩:=gG.1 hs.aA;obtain⟨h3,h4⟩:=gG.1 (Jt hs b g v);have n1:=KL hs.aA o k b';have n2:=KL (Jt hs b g v) o k b';have up:bW (pV s b g v) o k b'≠0->∃x∈s.aA,x.aC=o/\x.aG=k/\x.bin=b'/\bW (pV s b g v) o k b'<=x.n/\(¬(b'=b/\(s.aG o.toNat k.toNat).dh=g)->bW (pV s b g v) o k b'=x.n):=λhn=>by
  obtain⟨_,hm⟩:=Dh h3 h4 hn;obtain⟨x,hx,e,a,a',hnot⟩:=gX.I7 (HY hs b g) _ _ hm;have e':(⟨o,k,b',bW (pV s b g v) o k b'⟩:dZ)={x with n:=bW (pV s b g v) o k b'}:=e
  simp only[dZ.mk.injEq]at e'
  refine⟨x,hx,e'.1.symm,e'.2.1.symm,e'.2.2.1.symm,a',λhq=>?_⟩
  have hi:(yt s b g).is x=false:=by
   cases hi:(yt s b g).is x
   ·rfl
   ·have:=ES.1 hi;rw[<- e'.1,<- e'.2.1,<- e'.2.2.1]at this
    exact absurd this hq
  have:=hnot hi;rw[<- this]
 constructor
 ·by_cases hn:bW (pV s b g v) o k b'=0
  ·omega
  ·obtain⟨x,hx,e1,e2,e3,hle,_⟩:=up hn;have:=Df h1 h2 hx;rw[e1,e2,e3]at this
   omega
 ·intro hq;by_cases hn:bW (pV s b g v) o k b'=0
  ·by_cases hm:bW s.aA o k b'=0
   ·omega
   ·obtain⟨_,hmem⟩:=Dh h1 h2 hm;have hi:(yt s b g).is ⟨o,k,b',bW s.aA o k b'⟩=false:=by
     cases hi:(yt s b g).is ⟨o,k,b',bW s.aA o k b'⟩
     ·rfl
     ·exact absurd (ES.1 hi) hq
    have:=gX.jdk (HY hs b g) (v - lZ s.aF b g) hmem hi;have:=Df h3 h4 this;simp only at this
    omega
  ·obtain⟨x,hx,e1,e2,e3,_,he⟩:=up hn;have:=Df h1 h2 hx;rw[e1,e2,e3]at this
   rw[he hq,this]
theorem Dl(hs:o9 p s)(b:Nat)(g v:Int)(o k:Int):0<=rH s b g v o k/\rH s b g v o k<=bW s.aA o k b/\rH s b g v o k<=kept s.aA o k:=by
 have h1:=(ML hs b g v o k b).1;have h2:=KL (Jt hs b g v) o k b;have h3:=JW hs.aA o k b;unfold rH;omega
theorem jew(hs:o9 p s){b:Nat}(hb:b<p.bQ.length)(g v:Int)(o k:Int):kept (pV s b g v) o k=kept s.aA o k - rH s b g v o k:=by
 rw[Gj hs.aA,Gj (Jt hs b g v)];have:=EH (f:=λb=>bW s.aA o k b) (g:=λb'=>bW (pV s b g v) o k b') (n:=6) (i:=b) (d:=- rH s b g v o k) (by have:=hs.counts;omega) (λi _ hne=>(ML hs b g v o k i).2 (λh=>hne (by omega))) (by
  show bW (pV s b g v) o k b=bW s.aA o k b+ -rH s b g v o k;unfold rH;omega)
 rw[this];omega
theorem Pn(o:Nat)(ho:o<s.ak.length):(wM s b g jq v).aC o={s.aC o with aH:=(s.aC o).aH.mapIdx λk y=>{y with dP:=y.dP+rH s b g v o k}}:=by
 unfold aJ.aC aU wM zW;simp[List.getD,ho]
theorem uD:(wM s b g jq v).ak.length=s.ak.length:=by simp[wM,zW]
theorem rY(o:Nat)(ho:o<s.ak.length):((wM s b g jq v).aC o).aH.length=(s.aC o).aH.length:=by rw[Pn o ho];simp
theorem Ld(o:Nat)(ho:o<s.ak.length):((wM s b g jq v).aC o).dW=(s.aC o).dW:=by rw[Pn o ho]
theorem Ef{o k:Nat}(ho:o<s.ak.length)(hk:k<(s.aC o).aH.length):(wM s b g jq v).aG o k={s.aG o k with dP:=(s.aG o k).dP+rH s b g v o k}:=by
 unfold aJ.aG;rw[Pn o ho,qw (by simpa using hk),qw hk]
 simp
theorem Xd(hs:o9 p s)(b' g':Int):pK (wM s b g jq v) b' g'=((pV s b g v).map (wX s b' g')).sum:=by
 unfold pK;congr 1
 apply oM;intro x hx;obtain⟨y,hy,e,_,_,_⟩:=gX.I7 (HY hs b g) _ x hx;have e':x={y with n:=x.n}:=e
 obtain⟨i,hi,rfl⟩:=aV hy;have h2:=hs.yR hi;rw[iL hi]at h2
 unfold wX;rw[e'];simp only;rw[Ef (by omega) (by omega)]
theorem Oy(hs:o9 p s)(hv:0<=v)(hv2:v<=bound s b g):bound (wM s b g jq v) b g=bound s b g - v:=by
 have h1:lZ (wM s b g jq v).aF b g=_:=(Gg b g _).symm.trans (gX.GY (Kv hs b g) v);rw[Gg]at h1
 have h2:=Xd (b:=b) (g:=g) (jq:=jq) (v:=v) hs b g;have h3:=gX.GY (HY hs b g) (v - lZ s.aF b g);rw[jd6,jd6]at h3
 change((pV s b g v).map (wX s b g)).sum=pK s b g - min (max (v - lZ s.aF b g) 0) (pK s b g)at h3
 rw[h3]at h2
 have h4:=yB hs b g;have h5:=DF hs b g s.aA.length;rw[Gq]at h5
 unfold bound at hv2 ⊢
 rw[h1,h2];omega
theorem UC(hs:o9 p s){b' g':Int}(hne:¬(b'=b/\g'=g)):bound (wM s b g jq v) b' g'=bound s b' g':=by
 have h1:lZ (wM s b g jq v).aF b' g'=lZ s.aF b' g':=gX.ja3 (C:=Iq b g) (Aj b' g') (λx n hx=>by
  have:=Rj.1 hx;unfold Aj;rw[ay (by show ¬(x.src=b'/\x.dh=g');omega),ay (by omega)]) (λx hx=>by
  have hx':x.n=0:=hx;unfold Aj;rw[hx'];split<;>rfl) s.aF v
 have h2:=Xd (b:=b) (g:=g) (jq:=jq) (v:=v) hs b' g';have h3:((pV s b g v).map (wX s b' g')).sum=pK s b' g':=gX.ja3 (C:=yt s b g) (wX s b' g') (λx n hx=>by
  have:=ES.1 hx;unfold wX;rw[ay (by show ¬(x.bin=b'/\(s.aG x.aC.toNat x.aG.toNat).dh=g');omega),ay (by omega)]) (λx hx=>by
  have hx':x.n=0:=hx;unfold wX;rw[hx'];split<;>rfl) s.aA _
 unfold bound;rw[h1,h2,h3]
structure zY(p:dA)(s:aJ)(b g:Nat)(jq:Int):Prop where
 hb:b<p.bQ.length
 hg:g<p.aP.length
 s0:0<=jq
 s1:jq<=200
 f0: -1048576<=bI s.bg g+jq - cell s.on b g
 f1:bI s.bg g+jq - cell s.on b g<=1048576
def over(s:aJ)(b g:Nat)(jq:Int):Int:=max (bound s b g - jq) 0
theorem Le(hc:aQ p s=0)(f:zY p s b g jq):aQ p (wM s b g jq (over s b g jq))=0:=by
 obtain⟨h,Ky⟩:=oU.1 hc;have hs:=h.sane;have hb0:=EY hs b g;have hs0:=f.s0;have hov:0<=over s b g jq/\over s b g jq<=bound s b g/\bound s b g - over s b g jq<=jq:=by unfold over;omega
 generalize over s b g jq=v at hov
 have hbl:b<s.on.length:=by rw[hs.tY];exact f.hb
 have hgl:g<(fO s.on b).length:=by rw[hs.rowLen f.hb];exact f.hg
 have hfl:g<s.bg.length:=by rw[hs.bg.1];exact f.hg
 refine oU.2 ⟨lI.of (o9.of ?_ (by rw[uD];exact hs.qH) ?_ (λo ho=>?_) (λo k ho hk=>?_) (Jt hs b g v) (λx hx=>?_) (λx hx=>?_)
  (dR.1 hs.form).2.2.2.2.1 (dR.1 hs.form).2.2.2.2.2.1 (LK (dR.1 hs.form).2.2.2.2.2.2 hfl f.f0 f.f1)) (λg' hg'=>?_) (λb' g' hb' hg'=>?_) (λo k ho hk=>?_),λo ho=>?_⟩
 ·exact jZ.2 ⟨hs.plan,LM (jZ.1 hs.shelf).2 ⟨f.s0,f.s1⟩ f.hb f.hg⟩
 ·refine aY (aY (kY _ _) ?_) hs.vJ
  rw[gX.QO];exact au _
 ·rw[uD]at ho
  rw[rY o ho,Ld o ho];exact⟨hs.tN ho,hs.dW ho⟩
 ·rw[uD]at ho
  rw[rY o ho]at hk
  have hl:=hs.aG ho hk;have h1:=(h.AU ho hk).1;have h2:=Dl hs b g v o k;have h3:=(vK hs.aA o k).1;rw[Ef ho hk,rP];simp only;refine⟨hl.1,hl.2.1,hl.2.2.1,?_⟩
  split at h1<;>omega
 ·obtain⟨y,hy,e,_,_,_⟩:=gX.I7 (HY hs b g) _ x hx;have e':x={y with n:=x.n}:=e
  have h1:=nZ.1 (aX.1 (dR.1 hs.form).2.2.1 y hy);obtain⟨i,hi,rfl⟩:=aV hy;have h2:=hs.yR hi;rw[iL hi]at h2
  rw[e'];exact nZ.2 ⟨by rw[uD];exact h1.1,by rw[rY _ (by show(s.aA[i]).aC.toNat<_;omega)];exact h1.2.1,h1.2.2⟩
 ·obtain⟨y,hy,e,a,a',_⟩:=gX.I7 (Kv hs b g) _ x hx;have e':x={y with n:=x.n}:=e
  have h1:=Gh.1 (aX.1 (dR.1 hs.form).2.2.2.1 y hy);change 1<=x.n at a
  change x.n<=y.n at a'
  rw[e'];exact Gh.2 ⟨h1.1,h1.2.1,h1.2.2.1,h1.2.2.2.1,a,by show x.n<=200;omega⟩
 ·have h1:=h.sum hg';have e1:BU (wM s b g jq v).on g'=_:=Ea (n:=jq) hbl hgl g';have e2:bI (wM s b g jq v).bg g'=if g'=g then bI s.bg g+jq - cell s.on b g else bI s.bg g':=IJ hfl
  rw[e1,e2];show _=bI s.gY g' - bI s.O g'+_;split
  ·rename_i hq
   subst hq;omega
  ·omega
 ·have h1:=h.bnd hb' hg';have e1:cell (wM s b g jq v).on b' g'=if b'=b/\g'=g then jq else cell s.on b' g':=pR hbl hgl
  rw[e1];by_cases hq:b'=b/\g'=g
  ·obtain⟨rfl,rfl⟩:=hq;rw[aB ⟨rfl,rfl⟩,Oy hs hov.1 hov.2.1];exact hov.2.2
  ·rw[ay hq,UC hs (by omega)]
   exact h1
 ·rw[uD]at ho
  rw[rY o ho]at hk
  obtain⟨l1,l2⟩:=h.AU ho hk;have h2:=Dl hs b g v o k;have h3:=(vK hs.aA o k).1;have hl:=hs.aG ho hk;refine uz.2 ?_
  have e1:kept (wM s b g jq v).aA o k=kept s.aA o k - rH s b g v o k:=jew hs f.hb g v o k;rw[Ef ho hk,Ld o ho,e1];simp only;refine⟨?_,λhh=>l2 ⟨hh.1,by omega⟩⟩
  split at l1<;>rename_i hz
  ·rw[aB hz];omega
  ·rw[ay hz];omega
 ·rw[uD]at ho
  rw[Ld o ho];rintro⟨h1,h2⟩;refine Ky o ho ⟨h1,yE.2 λk hk=>?_⟩
  have h3:=yE.1 h2 k (by rw[rY o ho];exact hk)
  have h4:=Ef (b:=b) (g:=g) (jq:=jq) (v:=v) ho hk;unfold aJ.aG at h4
  rw[h4]at h3
  exact h3
end
structure JC(p:dA)(b:Nat)(S:Nat->Nat->Prop)(s t:aJ):Prop where
 right:lI p t
 on:t.on=s.on
 aF:t.aF=s.aF
 gY:t.gY=s.gY
 O:t.O=s.O
 bg:t.bg=s.bg
 ak:t.ak.length=s.ak.length
 dW:∀o,(t.aC o).dW=(s.aC o).dW
 aH:∀o,(t.aC o).aH.length=(s.aC o).aH.length
 aG:∀o k,(t.aG o k).dh=(s.aG o k).dh/\(t.aG o k).iw=(s.aG o k).iw/\(t.aG o k).oh=(s.aG o k).oh
 bnd:∀g:Int,bound t b g=bound s b g
 dP:∀o k,¬S o k->(t.aG o k).dP=(s.aG o k).dP
namespace JC
variable {p:dA} {b:Nat} {S S':Nat→Nat→Prop} {s t u:aJ}
theorem refl(h:lI p s):JC p b S s s:=⟨h,rfl,rfl,rfl,rfl,rfl,rfl,λ_=>rfl,λ_=>rfl,λ_ _=>⟨rfl,rfl,rfl⟩,λ_=>rfl,λ_ _ _=>rfl⟩
theorem mono(h:JC p b S s t)(hS:∀o k,S o k->S' o k):JC p b S' s t:={h with dP:=λo k hn=>h.dP o k λhs=>hn (hS o k hs)}
theorem trans(h:JC p b S s t)(h':JC p b S' t u):JC p b (λo k=>S o k\/S' o k) s u:=by
 refine⟨h'.right,h'.on.trans h.on,h'.aF.trans h.aF,h'.gY.trans h.gY,h'.O.trans h.O,h'.bg.trans h.bg,h'.ak.trans h.ak,λo=>(h'.dW o).trans (h.dW o),λo=>(h'.aH o).trans (h.aH o),λo k=>?_,λg=>(h'.bnd g).trans (h.bnd g),λo k hn=>?_⟩
 ·obtain⟨a1,a2,a3⟩:=h.aG o k;obtain⟨b1,b2,b3⟩:=h'.aG o k;exact⟨b1.trans a1,b2.trans a2,b3.trans a3⟩
 ·exact(h'.dP o k λhs=>hn (.inr hs)).trans (h.dP o k λhs=>hn (.inl hs))
theorem one{o k:Nat}{n:Int}(h:lI p s)(hm:n=0\/May s o k n):JC p b (λo' k'=>o'=o/\k'=k) s (qL p s o k n b).1:=by
 rcases hm with rfl|hm
 ·have:qL p s o k 0 b=(s,0):=JG (by omega)
  rw[this];exact refl h
 ·obtain⟨h1,_,_⟩:=Qi (but:=b) h hm;exact⟨h1.right,h1.on,h1.aF,h1.gY,h1.O,h1.bg,h1.ak,h1.dW,h1.aH,h1.aG,λg=>jfF h hm g,λo' k' hn=>by rw[h1.dP,ay hn,qx]⟩
theorem may(h:JC p b S s t){o k:Nat}{n:Int}(hn:¬S o k)(hm:n=0\/May s o k n):n=0\/May t o k n:=by
 rcases hm with hm|hm
 ·exact .inl hm
 ·exact .inr ⟨by rw[h.ak];exact hm.ho,by rw[h.aH];exact hm.hk,by rw[h.dW];exact hm.dW,hm.n0,by rw[h.dP o k hn];exact hm.dP⟩
theorem check(h:JC p b S s t)(hs:aQ p s=0):aQ p t=0:=by
 refine oU.2 ⟨h.right,λo ho=>?_⟩
 rw[h.ak]at ho
 have:=(oU.1 hs).2 o ho;rw[h.dW];rintro⟨h1,h2⟩;refine this ⟨h1,yE.2 λk hk=>?_⟩
 have h3:=yE.1 h2 k (by rw[h.aH];exact hk)
 have h4:=h.aG o k;unfold aJ.aG at h4
 rw[h4.2.1,h4.2.2]at h3
 exact h3
end JC
def yY(p:dA)(o:Nat)(b:Int)(n:Nat->Int):Nat->aJ->aJ
 |0,s=>s
 |k+1,s=>(qL p (yY p o b n k s) o k (n k) b).1
def Ba(p:dA)(b:Int)(n:Nat->Nat->Int):Nat->aJ->aJ
 |0,s=>s
 |o+1,s=>yY p o b (n o) ((Ba p b n o s).aC o).aH.length (Ba p b n o s)
def H8(p:dA)(s:aJ)(b g:Nat)(jq:Int):aJ:=
 Ba p b (λo k=>rH s b g (over s b g jq) o k) s.ak.length (wM s b g jq (over s b g jq))
def count(p:dA)(s:aJ)(b g jq:Int):aJ×Int:=
 if aQ p s≠0 then(jD,aQ p s)
 else if !(lV p b&&iK p g&&cZ jq 0 200)then(jD,3)
 else if !(cZ (bI s.bg g.toNat+jq - cell s.on b.toNat g.toNat) (-1048576) 1048576)then(jD,2)
 else(H8 p s b.toNat g.toNat jq,0)
section
variable {p:dA} {s:aJ} {b g:Nat} {jq v:Int} {n:Nat→Nat→Int}
theorem Js{o:Nat}{n:Nat->Int}(h:lI p s)(hn:∀k,k<(s.aC o).aH.length->n k=0\/May s o k (n k)):∀m,m<=(s.aC o).aH.length->JC p b (λo' k'=>o'=o/\k'<m) s (yY p o b n m s)
 |0,_=>JC.refl h
 |m+1,hm=>by
  have h1:=Js h hn m (by omega)
  have h2:=JC.one (b:=b) h1.right (h1.may (by omega) (hn m (by omega)))
  exact(h1.trans h2).mono λo' k' hs=>by omega
theorem Ep(h:lI p s)(hn:∀o k,o<s.ak.length->k<(s.aC o).aH.length->n o k=0\/May s o k (n o k)):∀m,m<=s.ak.length->JC p b (λo' _=>o'<m) s (Ba p b n m s)
 |0,_=>JC.refl h
 |m+1,hm=>by
  have h1:=Ep h hn m (by omega)
  have h2:=Js (b:=b) (o:=m) (n:=n m) h1.right (λk hk=>h1.may (by omega) (hn m k (by omega) (by rw[<- h1.aH];exact hk))) _ (au _)
  exact(h1.trans h2).mono λo' k' hs=>by omega
theorem Pm(h:lI p s){o k:Nat}(ho:o<s.ak.length)(hk:k<(s.aC o).aH.length):rH s b g v o k=0\/May (wM s b g jq v) o k (rH s b g v o k):=by
 have h1:=Dl h.sane b g v o k;by_cases hz:rH s b g v o k=0
 ·exact .inl hz
 ·have h2:=h.AU ho hk;have h3:=h.sane.aG ho hk;have h4:=h.sane.dW ho;have h5:(s.aC o).dW≠0:=λe=>by rw[aB e]at h2;omega
  have h6:(s.aC o).dW≠2:=λe=>h2.2 ⟨e,by omega⟩
  refine .inr ⟨by rw[uD];exact ho,by rw[rY o ho];exact hk,by rw[Ld o ho];omega,h1.1,?_⟩
  rw[Ef ho hk];simp only;omega
theorem MO(hc:aQ p s=0)(f:zY p s b g jq):JC p b (λo _=>o<s.ak.length) (wM s b g jq (over s b g jq)) (H8 p s b g jq):=by
 have h:=jf hc;have hcut:=jf (Le hc f);exact Ep hcut (λo k ho hk=>by
  rw[uD]at ho
  rw[rY o ho]at hk
  exact Pm h ho hk) _ (by rw[uD];exact au _)
theorem jcA(hc:aQ p s=0)(f:zY p s b g jq):aQ p (H8 p s b g jq)=0:=(MO hc f).check (Le hc f)
theorem jgz(hc:aQ p s=0)(f:zY p s b g jq):(H8 p s b g jq).ak.length=s.ak.length:=by rw[(MO hc f).ak,uD]
theorem jcy(hc:aQ p s=0)(f:zY p s b g jq){o:Nat}(ho:o<s.ak.length):((H8 p s b g jq).aC o).aH.length=(s.aC o).aH.length:=by rw[(MO hc f).aH,rY o ho]
theorem Xf(hs:o9 p s):pV s b g 0=s.aA:=gX.rest_none (HY hs b g) (by have:=yB hs b g;omega)
theorem jev(hs:o9 p s):yN s b g 0=s.aF:=gX.rest_none (Kv hs b g) (by omega)
theorem Y7(hs:o9 p s)(o k:Int):rH s b g 0 o k=0:=by
 unfold rH;rw[Xf hs];omega
theorem Xe(hs:o9 p s):zW s b g 0=s.ak:=by
 unfold zW;apply lW
 ·simp
 ·intro i h1 h2;rw[lN];have:((s.ak[i].aH.mapIdx λk y=>{y with dP:=y.dP+rH s b g 0 i k}):List Line)=s.ak[i].aH:=by
   apply lW
   ·simp
   ·intro j h3 h4;rw[lN,Y7 hs,jC]
  rw[this]
theorem Uh{b g:Int}(h:(count p s b g jq).2=0):aQ p s=0/\∃i j:Nat,b=i/\g=j/\zY p s i j jq/\(count p s b g jq).1=H8 p s i j jq:=by
 unfold count at h ⊢
 by_cases h1:aQ p s=0
 ·rw[ay (λhn=>hn h1)]at h ⊢
  by_cases h2:(lV p b&&iK p g&&cZ jq 0 200)=true
  ·rw[ay (by rw[h2];simp)]at h ⊢
   by_cases h3:cZ (bI s.bg g.toNat+jq - cell s.on b.toNat g.toNat) (-1048576) 1048576=true
   ·rw[ay (by rw[h3];simp)]
    simp only[bG]at h2
    obtain⟨i,rfl,hi⟩:=jaA h2.1.1;obtain⟨j,rfl,hj⟩:=WL h2.1.2;have h4:=dV.1 h2.2;have h5:=dV.1 h3;simp only[bZ]at h5 ⊢
    exact⟨h1,i,j,rfl,rfl,⟨hi,hj,h4.1,h4.2,h5.1,h5.2⟩,rfl⟩
   ·rw[aB (by simpa using h3)]at h
    simp at h
  ·rw[nM]at h2
   rw[h2,aB (by rfl)]at h
   simp at h
 ·rw[aB h1]at h
  exact absurd h h1
end
section
variable {p:dA} {s:aJ} {b g n:Int}
theorem Za(h:aQ p s≠0):count p s b g n=(jD,aQ p s):=by unfold count;rw[aB h]
theorem EW(h:aQ p s=0)(h2:(lV p b&&iK p g&&cZ n 0 200)=false):count p s b g n=(jD,3):=by
 unfold count;rw[ay (λhn=>hn h),h2]
 rfl
theorem QS{i j:Nat}(h:aQ p s=0)(hi:i<p.bQ.length)(hj:j<p.aP.length)(hn:0<=n/\n<=200)(h2:bI s.bg j+n - cell s.on i j< -1048576\/1048576<bI s.bg j+n - cell s.on i j):count p s i j n=(jD,2):=by
 have h3:(lV p (i:Int)&&iK p (j:Int)&&cZ n 0 200)=true:=by rw[yT.2 (by omega),vN.2 (by omega),dV.2 hn];rfl
 unfold count;rw[ay (λhn=>hn h),h3,ay (by simp)]
 simp only[bZ];rw[nU.2 h2];rfl
theorem jcx{i j:Nat}(h:aQ p s=0)(f:zY p s i j n):count p s i j n=(H8 p s i j n,0):=by
 have h1:=f.hb;have h2:=f.hg;have h3:(lV p (i:Int)&&iK p (j:Int)&&cZ n 0 200)=true:=by rw[yT.2 (by omega),vN.2 (by omega),dV.2 ⟨f.s0,f.s1⟩];rfl
 unfold count;rw[ay (λhn=>hn h),h3,ay (by simp)]
 simp only[bZ];rw[dV.2 ⟨f.f0,f.f1⟩];rfl
end
namespace gX
variable {α:Type} (C:gX α)
def mid(l:List α)(v:Int)(j:Nat):List α×Int:=(l.take j++(C.cut (l.drop j) v).1,(C.cut (l.drop j) v).2)
variable {C}
theorem je3(l:List α)(v:Int):C.mid l v l.length=(l,v):=by
 unfold mid;rw[wS,fG];show(l++[],v)=_;rw[iJ]
theorem mid_zero(l:List α)(v:Int):C.mid l v 0=C.cut l v:=rfl
theorem O6(l:List α)(v:Int)(j:Nat):(C.mid l v j).1.length=l.length:=by
 unfold mid;rw[aZ,QO,bT,fQ];omega
theorem ZN{l:List α}(v:Int){i j:Nat}(hi:i<l.length)(hij:i<j):(C.mid l v j).1[i]?=some l[i]:=by
 unfold mid;rw[fE (by rw[bT];omega),List.getElem?_take_of_lt hij,bf hi]
theorem je4{l:List α}(v:Int){j:Nat}(hj:j<l.length)(h:C.is l[j]=false):C.mid l v j=C.mid l v (j+1):=by
 unfold mid;rw[jE hj,DK h,dO hj,eH];rfl
theorem jhK{l:List α}(v:Int){j:Nat}(hj:j<l.length)(h:C.is l[j]=true):
  C.mid l v j=((C.mid l v (j+1)).1.set j (C.put l[j] (C.num l[j] - less (C.mid l v (j+1)).2 (C.num l[j]))),(C.mid l v (j+1)).2 - less (C.mid l v (j+1)).2 (C.num l[j])):=by
 unfold mid;rw[jE hj,DZ h,dO hj,eH];have hl:(List.take j l).length<=j:=by rw[bT];omega
 have e:j - (List.take j l).length=0:=by rw[bT];omega
 rw[mG _ _ hl,e];rfl
theorem je5{β:Type}(f:α->β)(hf:∀x n,f (C.put x n)=f x)(l:List α)(v:Int)(j:Nat):(C.mid l v j).1.map f=l.map f:=by
 unfold mid;rw[fJ,jfs f hf,<- fJ,mF]
theorem VO{l:List α}(h:∀x∈l,0<=C.num x)(v:Int)(j:Nat):min v 0<=(C.mid l v j).2/\(C.mid l v j).2<=v:=by
 have hd:∀x∈l.drop j,0<=C.num x:=λx hx=>h x (tu hx)
 have:=Jr hd v;have h2:=EG hd;unfold mid;simp only;omega
end gX
def xB(h:dZ):Int×Int×Int:=(h.aC,h.aG,h.bin)
theorem Fz(x:dZ)(r:List dZ)(o k b:Int):bW (x::r) o k b=if x.aC=o/\x.aG=k/\x.bin=b then x.n else bW r o k b:=by
 unfold bW;rw[AA]
 by_cases h:x.aC=o/\x.aG=k/\x.bin=b
 ·have e:uS o k b x=true:=by unfold uS;simp[h.1,h.2.1,h.2.2]
  rw[e,aB h]
 ·have e:uS o k b x=false:=by
   unfold uS;by_cases h1:x.aC=o<;>by_cases h2:x.aG=k<;>by_cases h3:x.bin=b<;>simp[h1,h2,h3]
   exact h ⟨h1,h2,h3⟩
  rw[e,ay h]
theorem Dy:∀ {l:List dZ},(l.map xB).Nodup->∀ {i:Nat} (hi:i<l.length),bW l l[i].aC l[i].aG l[i].bin=l[i].n
 |[],_,i,hi=>by simp at hi
 |x::r,hn,0,_=>by rw[Fz];simp
 |x::r,hn,i+1,hi=>by
  rw[dn,uh]at hn
  have hi':i<r.length:=by simpa using hi
  rw[Fz,ay]
  ·exact Dy hn.2 hi'
  ·rintro⟨h1,h2,h3⟩;refine hn.1 (kV.2 ⟨r[i],bU hi',?_⟩)
   unfold xB;simp only[rQ]at h1 h2 h3
   rw[h1,h2,h3]
theorem Qv{l:List dZ}{o k b:Int}(h:∀x∈l,¬(x.aC=o/\x.aG=k/\x.bin=b)):bW l o k b=0:=by
 induction l with
 |nil=>rfl
 |cons x r ih=>rw[Fz,ay (h x (dS ..)),ih λy hy=>h y (bP _ hy)]
theorem jbF{l:List dZ}(hn:(l.map xB).Nodup)(o k b:Int):bW (l.filter λh=>!decide (h.n=0)) o k b=bW l o k b:=by
 induction l with
 |nil=>rfl
 |cons x r ih=>
  rw[dn,uh]at hn
  rw[lq,Fz];by_cases h0:x.n=0
  ·rw[ay (by simp[h0]),ih hn.2]
   split
   ·rename_i h
    rw[h0];refine Qv λy hy hh=>hn.1 (kV.2 ⟨y,hy,?_⟩)
    unfold xB;rw[hh.1,hh.2.1,hh.2.2,h.1,h.2.1,h.2.2]
   ·rfl
  ·rw[aB (by simp[h0]),Fz,ih hn.2]
theorem jbu{l:List dZ}{j:Nat}(hj:j<l.length)(y:Int):(l.set j {l[j]with n:=y}).map xB=l.map xB:=by
 rw[List.map_set];apply ni;intro i;rw[qo]
 split
 ·rename_i h
  subst h;rw[aB (by simpa using hj),iZ,bf hj]
  rfl
 ·rfl
theorem VY{l:List dZ}(hn:(l.map xB).Nodup){j:Nat}(hj:j<l.length)(y:Int)(o k b:Int):
  bW (l.set j {l[j]with n:=y}) o k b=if l[j].aC=o/\l[j].aG=k/\l[j].bin=b then y else bW l o k b:=by
 have hn':((l.set j {l[j]with n:=y}).map xB).Nodup:=by rw[jbu hj];exact hn
 have kD:(l.set j {l[j]with n:=y}).length=l.length:=jU ..
 split
 ·rename_i h
  have:=Dy hn' (i:=j) (by omega)
  rw[pY]at this
  rw[<- h.1,<- h.2.1,<- h.2.2];exact this
 ·rename_i h
  by_cases hx:∃i,∃hi:i<l.length,l[i].aC=o/\l[i].aG=k/\l[i].bin=b
  ·obtain⟨i,hi,h1,h2,h3⟩:=hx;have hij:j≠i:=λe=>by subst e;exact h ⟨h1,h2,h3⟩
   have e1:=Dy hn hi;have e2:=Dy hn' (i:=i) (by omega)
   rw[CJ hij]at e2
   rw[h1,h2,h3]at e1 e2
   rw[e1,e2]
  ·have hnot:∀x∈l,¬(x.aC=o/\x.aG=k/\x.bin=b):=λx hx' hh=>by
    obtain⟨i,hi,rfl⟩:=aV hx';exact hx ⟨i,hi,hh⟩
   rw[Qv hnot,Qv];intro x hx' hh;obtain⟨i,hi,rfl⟩:=aV hx';by_cases hij:j=i
   ·subst hij;rw[pY]at hh
    exact h hh
   ·rw[CJ hij]at hh
    exact hx ⟨i,by omega,hh⟩
theorem Jc{l:List dZ}(h:iD l=true):(l.map xB).Nodup:=by
 have h2:=(gG.1 h).2;rw[List.Nodup,nY];refine List.Pairwise.imp (λ{a b} hlt he=>?_) h2
 unfold xB at he
 simp only[sQ]at he
 unfold fP at hlt
 rw[he.1,he.2.1,he.2.2]at hlt
 omega
def hdO(s:aJ)(b:Int)(l:List dZ):List Order:=
 s.ak.mapIdx λo x=>{x with aH:=x.aH.mapIdx λk y=>{y with dP:=y.dP+(bW s.aA o k b - bW l o k b)}}
def Nk(s:aJ)(b:Int)(l:List dZ):aJ:={s with aA:=l,ak:=hdO s b l}
section
variable {s:aJ} {b:Int} {l:List dZ}
theorem jae(o:Nat):(hdO s b l)[o]?=s.ak[o]?.map λx=>{x with aH:=x.aH.mapIdx λk y=>{y with dP:=y.dP+(bW s.aA o k b - bW l o k b)}}:=by
 unfold hdO;rw[qE]
theorem RG:(hdO s b l).length=s.ak.length:=by simp[hdO]
theorem SS{o:Nat}(ho:o<s.ak.length):(Nk s b l).aC o={s.aC o with aH:=(s.aC o).aH.mapIdx λk y=>{y with dP:=y.dP+(bW s.aA o k b - bW l o k b)}}:=by
 unfold aJ.aC aU Nk;simp only[dU,jae,bf ho]
 rfl
theorem SX{o:Nat}(ho:o<s.ak.length):((Nk s b l).aC o).aH.length=(s.aC o).aH.length:=by rw[SS ho];simp
theorem jb0{o k:Nat}(ho:o<s.ak.length)(hk:k<(s.aC o).aH.length):(Nk s b l).aG o k={s.aG o k with dP:=(s.aG o k).dP+(bW s.aA o k b - bW l o k b)}:=by
 unfold aJ.aG;rw[SS ho,qw (by simpa using hk),qw hk]
 simp
theorem jge{l':List dZ}(h:∀o k:Nat,bW l' o k b=bW l o k b):hdO s b l'=hdO s b l:=by
 unfold hdO;simp only[h]
theorem jiK:hdO s b s.aA=s.ak:=by
 have e:∀x:List Line,(x.mapIdx λ_ y=>y)=x:=λx=>by
  apply ni;intro i;simp
 have e2:∀x:List Order,(x.mapIdx λ_ y=>y)=x:=λx=>by
  apply ni;intro i;simp
 unfold hdO;simp only[Int.sub_self,jC,e,e2]
theorem jiJ:Nk s b s.aA=s:=by unfold Nk;rw[jiK]
theorem jiI(hn:(l.map xB).Nodup){j:Nat}(hj:j<l.length){o k:Nat}{m:Int}(h1:l[j].aC=o)(h2:l[j].aG=k)(h3:l[j].bin=b)(ho:o<s.ak.length)(hk:k<(s.aC o).aH.length):
  Nk s b (l.set j {l[j]with n:=l[j].n - m})=({Nk s b l with aA:=l.set j {l[j]with n:=l[j].n - m}}:aJ).lY o k {(Nk s b l).aG o k with dP:=((Nk s b l).aG o k).dP+m}:=by
 have hka:=Dy hn hj;rw[h1,h2,h3]at hka
 have xB:∀o' k':Nat,bW (l.set j {l[j]with n:=l[j].n - m}) o' k' b=bW l o' k' b - (if o'=o/\k'=k then m else 0):=λo' k'=>by
  rw[VY hn hj,h1,h2,h3];by_cases h:o'=o/\k'=k
  ·obtain⟨rfl,rfl⟩:=h;rw[aB ⟨rfl,rfl,rfl⟩,aB ⟨rfl,rfl⟩,hka]
  ·rw[ay (λhh=>h ⟨by omega,by omega⟩),ay h]
   omega
 have hord:(({Nk s b l with aA:=l.set j {l[j]with n:=l[j].n - m}}:aJ)).aC o=(Nk s b l).aC o:=rfl
 unfold aJ.lY;rw[hord];unfold Nk;simp only[aJ.mk.injEq,mg,mD];apply ni;intro o';rw[jae,qo]
 by_cases he:o=o'
 ·subst he;rw[aB rfl,aB (by rw[RG];exact ho),bf ho]
  have e0:s.aC o=s.ak[o]:=by unfold aJ.aC;rw[uy ho]
  have e1:aJ.aC {s with aA:=l,ak:=hdO s b l} o={s.aC o with aH:=(s.aC o).aH.mapIdx λk y=>{y with dP:=y.dP+(bW s.aA o k b - bW l o k b)}}:=SS ho
  have e2:aJ.aG {s with aA:=l,ak:=hdO s b l} o k={s.aG o k with dP:=(s.aG o k).dP+(bW s.aA o k b - bW l o k b)}:=jb0 ho hk
  rw[e1,e2];simp only[iH,mZ,Order.mk.injEq];refine⟨by rw[e0],?_⟩
  apply ni;intro k';rw[qE,qo,qE,<- e0]
  by_cases hke:k=k'
  ·subst hke;rw[aB rfl,aB (by simpa using hk),bf hk,xB o k,aB ⟨rfl,rfl⟩]
   have:s.aG o k=(s.aC o).aH[k]:=by unfold aJ.aG;rw[qw hk]
   rw[this];simp only[iH,mZ,Line.mk.injEq,mg];omega
  ·rw[ay hke];cases hq:(s.aC o).aH[k']? with
   |none=>rfl
   |some y=>
    simp only[iH];rw[xB o k',ay (λh=>hke h.2.symm)]
    simp
 ·rw[ay he,jae];cases hq:s.ak[o']? with
  |none=>rfl
  |some x=>
   simp only[iH,mZ,Order.mk.injEq,mg];apply ni;intro k';rw[qE,qE]
   cases hq2:x.aH[k']? with
   |none=>rfl
   |some y=>
    simp only[iH];rw[xB o' k',ay (λh=>he h.1.symm)]
    simp
end
theorem jgw{p:dA}{s:aJ}{b g:Nat}{jq:Int}(hs:o9 p s):
  let s1:aJ:={s with on:=setCell s.on b g jq,bg:=s.bg.set g (bI s.bg g+jq - cell s.on b g),aF:=(Iq b g).rest s.aF (bound s b g - jq)}
  wM s b g jq (over s b g jq)=Nk s1 b ((yt s1 b g).rest s1.aA ((Iq b g).mid s.aF (bound s b g - jq) 0).2):=by
 intro s1;have hm:=Kv hs b g;have hh:=HY hs b g;have hC:yt s1 b g=yt s b g:=rfl;have h1:yN s b g (over s b g jq)=(Iq b g).rest s.aF (bound s b g - jq):=by
  unfold yN over;rw[gX.Vp hm (bound s b g - jq)]
 have hov:=gX.Jr (λx hx=>by have:=hm x hx;omega) (bound s b g - jq) (C:=Iq b g) (l:=s.aF)
 have h2:pV s b g (over s b g jq)=(yt s1 b g).rest s1.aA ((Iq b g).mid s.aF (bound s b g - jq) 0).2:=by
  rw[hC,gX.mid_zero,hov];unfold pV over;rw[<- Gg,gX.Vp hh,gX.Vp hh (bound s b g - jq - _)];congr 1
  have:=gX.EG (C:=Iq b g) (l:=s.aF) λx hx=>by have:=hm x hx;omega
  omega
 unfold Nk wM;rw[<- h2,h1];rfl
def Qb(p:dA)(b:Int)(n:Nat->Nat->Int):List Nat->aJ->aJ
 |[],s=>s
 |q::r,s=>Qb p b n r (qL p s (q / 3) (q%3) (n (q / 3) (q%3)) b).1
section
variable {p:dA} {b:Int} {n:Nat→Nat→Int}
theorem MN(l r:List Nat)(s:aJ):Qb p b n (l++r) s=Qb p b n r (Qb p b n l s):=by
 induction l generalizing s with
 |nil=>rfl
 |cons q l ih=>exact ih _
theorem Vd(s:aJ)(o k:Nat):(qL p s o k 0 b).1=s:=by
 have:qL p s o k 0 b=(s,0):=JG (by omega)
 rw[this]
theorem jav(f:Nat->Bool)(hf:∀q,f q=false->n (q / 3) (q%3)=0)(l:List Nat)(s:aJ):Qb p b n (l.filter f) s=Qb p b n l s:=by
 induction l generalizing s with
 |nil=>rfl
 |cons q l ih=>
  cases h:f q
  ·rw[lF (by simp[h]),ih]
   show _=Qb p b n l (qL p s (q / 3) (q%3) (n (q / 3) (q%3)) b).1;rw[hf q h,Vd]
  ·rw[jr h];exact ih _
theorem jcu(o m:Nat)(hm:m<=3)(s:aJ):Qb p b n ((List.range m).map λk=>o*3+k) s=yY p o b (n o) m s:=by
 induction m with
 |zero=>rfl
 |succ m ih=>
  rw[lJ,fJ,MN,ih (by omega)]
  show(qL p (yY p o b (n o) m s) ((o*3+m) / 3) ((o*3+m)%3) (n ((o*3+m) / 3) ((o*3+m)%3)) b).1=(qL p (yY p o b (n o) m s) o m (n o m) b).1;rw[show(o*3+m) / 3=o by omega,show(o*3+m)%3=m by omega]
theorem jba(m:Nat):List.range ((m+1)*3)=List.range (m*3)++(List.range 3).map λk=>m*3+k:=by
 have h:(m+1)*3=m*3+3:=by omega
 rw[h,List.range_add]
theorem Oz{o m:Nat}{f:Nat->Int}{s:aJ}:∀d,(∀k,m<=k->f k=0)->yY p o b f (m+d) s=yY p o b f m s
 |0,_=>rfl
 |d+1,h=>by
  show(qL p (yY p o b f (m+d) s) o (m+d) (f (m+d)) b).1=_;rw[h (m+d) (by omega),Vd,Oz d h]
theorem Y8{s:aJ}(hl:∀o,o<s.ak.length->(s.aC o).aH.length<=3)(hz:∀o k,(s.aC o).aH.length<=k->n o k=0)(kD:∀m o,m<=s.ak.length->((Ba p b n m s).aC o).aH.length=(s.aC o).aH.length):
  ∀m,m<=s.ak.length->Qb p b n (List.range (m*3)) s=Ba p b n m s
 |0,_=>rfl
 |m+1,hm=>by
  rw[jba,MN,Y8 hl hz kD m (by omega),jcu m 3 (au _)]
  show _=yY p m b (n m) ((Ba p b n m s).aC m).aH.length (Ba p b n m s);rw[kD m m (by omega)]
  obtain⟨d,hd⟩:∃d,3=(s.aC m).aH.length+d:=⟨3 - (s.aC m).aH.length,by have:=hl m (by omega);omega⟩
  rw[hd,Oz d λk hk=>hz m k hk]
end
def act(p:dA)(s:aJ)(x:yK):aJ×Int:=
 if x.dW=1 then rF p s x.a x.b x.n
 else if x.dW=2 then enter p s x.aH
 else if x.dW=3 then zq p s
 else if x.dW=4 then zJ p s x.a
 else if x.dW=5 then pick p s x.a x.b x.c x.n
 else if x.dW=6 then fill p s
 else if x.dW=7 then CW p s x.a x.n
 else if x.dW=8 then count p s x.a x.b x.n
 else(jD,8)
def BH(s:aJ)(g:Int):Int:=VF (jcf s g) s s.ak.length 0
theorem VE{F G:Nat->Nat->Int}{s t:aJ}{n:Nat}(hl:∀o,o<n->(t.aC o).aH.length=(s.aC o).aH.length)(hF:∀o k,o<n->k<(s.aC o).aH.length->G o k=F o k):VF G t n 0=VF F s n 0:=by
 unfold VF;congr 1
 refine zo λo ho=>?_
 rw[hl o ho];exact zo λk hk=>hF o k ho hk
theorem Gt{s t:aJ}(h:t.ak.length=s.ak.length)(hl:∀o,o<s.ak.length->(t.aC o).aH.length=(s.aC o).aH.length)
  (hg:∀o k,o<s.ak.length->k<(s.aC o).aH.length->(t.aG o k).dh=(s.aG o k).dh/\(t.aG o k).oh=(s.aG o k).oh) (g:Int):BH t g=BH s g:=by
 unfold BH;rw[h];refine VE hl λo k ho hk=>?_
 obtain⟨h1,h2⟩:=hg o k ho hk;unfold jcf;rw[h1,h2]
theorem jhE{F G:Nat->Nat->Int}{s t:aJ}{n i j:Nat}{d:Int}(hl:∀o,o<n->(t.aC o).aH.length=(s.aC o).aH.length)(hi:i<n)(hj:j<(s.aC i).aH.length)
  (hF:∀o k,o<n->k<(s.aC o).aH.length->¬(o=i/\k=j)->G o k=F o k) (hd:G i j=F i j+d):VF G t n 0=VF F s n 0+d:=by
 have:=EH (f:=λo=>nH (F o) (s.aC o).aH.length) (g:=λo=>nH (G o) (t.aC o).aH.length) (n:=n) (i:=i) (d:=d) hi (λo ho hne=>by
  show nH (G o) (t.aC o).aH.length=nH (F o) (s.aC o).aH.length;rw[hl o ho];exact zo λk hk=>hF o k ho hk (λh=>hne h.1)) (by
  show nH (G i) (t.aC i).aH.length=nH (F i) (s.aC i).aH.length+d;rw[hl i hi];exact EH hj (λk hk hne=>hF i k hi hk (λh=>hne h.2)) hd)
 unfold VF;rw[this];show _+0=_+0+d;omega
structure Kept(p:dA)(s t:aJ):Prop where
 check:aQ p t=0
 went:∀g,g<p.aP.length->bI t.O g - bI s.O g=BH t g - BH s g/\BH s g<=BH t g
section
variable {p:dA} {s:aJ}
theorem Zx{b g n:Int}(h:(rF p s b g n).2=0):Kept p s (rF p s b g n).1:=by
 refine⟨(Zw h).1,λk hk=>?_⟩
 obtain⟨_,_,_,_,_,_,_,e⟩:=Kt h;rw[e];have:BH {s with on:=setCell s.on b.toNat g.toNat (cell s.on b.toNat g.toNat+n),gY:=s.gY.set g.toNat (bI s.gY g.toNat+n)} k=BH s k:=Gt rfl (λ_ _=>rfl) (λ_ _ _ _=>⟨rfl,rfl⟩) k
 rw[this];exact⟨by show bI s.O k - bI s.O k=_;omega,iM _⟩
theorem jet{l:List Line}(h:(enter p s l).2=0):Kept p s (enter p s l).1:=by
 refine⟨(jes h).1,λg hg=>?_⟩
 obtain⟨_,_,_,hl,e⟩:=Ou h;rw[e];have hor:∀o,o<s.ak.length->({s with ak:=s.ak++[⟨0,l⟩]}:aJ).aC o=s.aC o:=λo ho=>by
  unfold aJ.aC aU;simp[ho,fE]
 have hnew:({s with ak:=s.ak++[⟨0,l⟩]}:aJ).aC s.ak.length=⟨0,l⟩:=by
  unfold aJ.aC aU;simp
 have e1:BH {s with ak:=s.ak++[⟨0,l⟩]} g=BH s g:=by
  unfold BH;have kD:({s with ak:=s.ak++[⟨0,l⟩]}:aJ).ak.length=s.ak.length+1:=by simp
  rw[kD,jdw];have e2:=VE (F:=jcf s g) (G:=jcf {s with ak:=s.ak++[⟨0,l⟩]} g) (s:=s) (t:={s with ak:=s.ak++[⟨0,l⟩]}) (n:=s.ak.length) (λo ho=>by rw[hor o ho]) (λo k ho hk=>by
   unfold jcf aJ.aG;rw[hor o ho])
  rw[<- e2];unfold VF;congr 1
  refine Vj λk hk=>?_
  rw[hnew]at hk
  unfold jcf aJ.aG;rw[hnew];have:=(hl (gK l k) (by rw[qw hk];exact bU hk)).2.1
  simp only;rw[this];split<;>rfl
 rw[e1];exact⟨by show bI s.O g - bI s.O g=_;omega,iM _⟩
theorem Zv(h:(zq p s).2=0):Kept p s (zq p s).1:=by
 obtain⟨hc,e⟩:=PN h;rw[e];have ht:=GI hc;refine⟨XL hc,λg hg=>?_⟩
 have:BH (Ec p s) g=BH s g:=Gt (ja5 hc) (λo ho=>XK hc ho) (λo k ho hk=>by
  obtain⟨a1,_,a3⟩:=ht.aG o k;rw[a1,a3,Gu s ho hk];split<;>exact⟨rfl,rfl⟩) g
 rw[this,ht.O];exact⟨by show bI s.O g - bI s.O g=_;omega,iM _⟩
theorem jax{o:Int}(h:(zJ p s o).2=0):Kept p s (zJ p s o).1:=by
 obtain⟨hc,i,rfl,hi,_,e⟩:=RV h;rw[e];refine⟨jay hc hi,λg hg=>?_⟩
 have:BH (xE s i) g=BH s g:=Gt (EF s i) (λo _=>FM hi o) (λo k ho hk=>by
  rw[J9 hi hk];split<;>exact⟨rfl,rfl⟩) g
 rw[this];exact⟨by show bI s.O g - bI s.O g=_;omega,iM _⟩
theorem jdv{o k b n:Int}(h:(pick p s o k b n).2=0):Kept p s (pick p s o k b n).1:=by
 obtain⟨hc,i,j,c,rfl,rfl,rfl,f,e⟩:=VB h;rw[e];obtain⟨h1,h2,h3,h4,h5,_⟩:=LW hc f;have hr:=jf hc;have hn0:=f.n0;refine⟨h1,λg hg=>?_⟩
 obtain⟨eg,hgl⟩:=Ql hr f;obtain⟨ht,_,_⟩:=I9 hr f;have hgood:((Ai p s i j c n).aG i j).dh=(s.aG i j).dh:=(jbh hc f).2.2.1;have hout:bI (Ai p s i j c n).O g=bI s.O g+if g=(s.aG i j).dh.toNat then n else 0:=by
  rw[Ja,(EC _ i).2.2.2.2.1,ht.O];show bI (s.O.set _ _) g=_;rw[IJ (by rw[hr.sane.O.1];exact hgl)]
  split
  ·rename_i e;rw[e]
  ·omega
 have Ky:BH (Ai p s i j c n) g=BH s g+if g=(s.aG i j).dh.toNat then n else 0:=by
  unfold BH;rw[h2];refine jhE (i:=i) (j:=j) (λo _=>h3 o) f.ho f.hk (λo' k' _ _ hne=>?_) ?_
  ·unfold jcf;rw[(h4 o' k' hne).2]
  ·unfold jcf;rw[hgood,h5];by_cases hq:g=(s.aG i j).dh.toNat
   ·rw[aB hq,aB (by omega),aB (by omega)]
   ·rw[ay hq,ay (by omega),ay (by omega)]
    rfl
 rw[hout,Ky];constructor
 ·omega
 ·split<;>omega
theorem jep(h:(fill p s).2=0):Kept p s (fill p s).1:=by
 obtain⟨hc,e⟩:=WU h;rw[e];have hf:=jaq hc;refine⟨jap hf,λg hg=>?_⟩
 have e1:=hf.rest;have:BH (Oq p s) g=BH s g:=by rw[e1];exact Gt rfl (λ_ _=>rfl) (λ_ _ _ _=>⟨rfl,rfl⟩) g
 rw[this];have e2:(Oq p s).O=s.O:=by rw[e1]
 rw[e2];exact⟨by omega,iM _⟩
theorem jbq{k n:Int}(h:(CW p s k n).2=0):Kept p s (CW p s k n).1:=by
 obtain⟨hc,i,rfl,f,e⟩:=TP h;rw[e];refine⟨jbr hc f,λg hg=>?_⟩
 have:BH (AQ s i n) g=BH s g:=Gt rfl (λ_ _=>rfl) (λ_ _ _ _=>⟨rfl,rfl⟩) g
 rw[this];exact⟨by show bI s.O g - bI s.O g=_;omega,iM _⟩
theorem jcz{b g n:Int}(h:(count p s b g n).2=0):Kept p s (count p s b g n).1:=by
 obtain⟨hc,i,j,rfl,rfl,f,e⟩:=Uh h;rw[e];have ht:=MO hc f;refine⟨jcA hc f,λk hk=>?_⟩
 have:BH (H8 p s i j n) k=BH s k:=Gt (jgz hc f) (λo ho=>jcy hc f ho) (λo k ho hk=>by
  obtain⟨a1,_,a3⟩:=ht.aG o k;rw[a1,a3,Ef ho hk];exact⟨rfl,rfl⟩) k
 rw[this,ht.O];exact⟨by show bI s.O k - bI s.O k=_;omega,iM _⟩
theorem jcN{x:yK}(h:(act p s x).2=0):aQ p s=0/\Kept p s (act p s x).1:=by
 unfold act at h ⊢
 split at h
 ·rename_i hk;rw[aB hk];exact⟨(Kt h).1,Zx h⟩
 rename_i h1;rw[ay h1]
 split at h
 ·rename_i hk;rw[aB hk];exact⟨(Ou h).1,jet h⟩
 rename_i h2;rw[ay h2]
 split at h
 ·rename_i hk;rw[aB hk];exact⟨(PN h).1,Zv h⟩
 rename_i h3;rw[ay h3]
 split at h
 ·rename_i hk;rw[aB hk];exact⟨(RV h).1,jax h⟩
 rename_i h4;rw[ay h4]
 split at h
 ·rename_i hk;rw[aB hk];exact⟨(VB h).1,jdv h⟩
 rename_i h5;rw[ay h5]
 split at h
 ·rename_i hk;rw[aB hk];exact⟨(WU h).1,jep h⟩
 rename_i h6;rw[ay h6]
 split at h
 ·rename_i hk;rw[aB hk];exact⟨(TP h).1,jbq h⟩
 rename_i h7;rw[ay h7]
 split at h
 ·rename_i hk;rw[aB hk];exact⟨(Uh h).1,jcz h⟩
 simp at h
end
def dI(t:List Nat)(i:Nat):Nat:=t.getD i 0
def ql(t:List Nat):Nat->List Line
 |0=>[]
 |m+1=>⟨dI t 0,dI t 1,dI t 2,dI t 3⟩::ql (t.drop 4) m
def oz(t:List Nat):Nat:=if t.length<6 then 0 else if 3<dI t 5\/t.length<6+4*dI t 5 then 0 else 6+4*dI t 5
def yI(t:List Nat):yK:=⟨dI t 0,dI t 1,dI t 2,dI t 3,dI t 4,ql (t.drop 6) (dI t 5)⟩
def rE:Nat->List Nat->List yK×Nat
 |0,_=>([],0)
 |n+1,t=>if oz t=0 then([],0)else(yI t::(rE n (t.drop (oz t))).1,oz t+(rE n (t.drop (oz t))).2)
def qj(t:List Nat):List yK×Int×Int:=if 4096<t.length then([],0,2)else((rE 60 t).1,(rE 60 t).2,0)
def qJ(n:Int):Bool:=cZ n 0 255
def Jf(x:Line):Bool:=qJ x.dh&&qJ x.iw&&qJ x.oh&&qJ x.dP
def O8(x:Line):List Nat:=[x.dh.toNat,x.iw.toNat,x.oh.toNat,x.dP.toNat]
def OM(x:yK):List Nat:=[x.dW.toNat,x.a.toNat,x.b.toNat,x.c.toNat,x.n.toNat,x.aH.length]++x.aH.flatMap O8
def MS(x:yK):Bool:=qJ x.dW&&qJ x.a&&qJ x.b&&qJ x.c&&qJ x.n&&x.aH.all Jf
def IU(x:yK):List Nat×Int:=if !(MS x)then([],3)else if 3<x.aH.length then([],2)else(OM x,0)
def wL(p:dA):List yK->aJ->aJ
 |[],s=>s
 |x::l,s=>wL p l (if(act p s x).2=0 then(act p s x).1 else s)
def sS(p:dA)(t:List Nat):aJ×Int×Int:=
 if gQ p≠0 then(jD,0,gQ p)else if(qj t).2.2≠0 then(jD,0,(qj t).2.2)else(wL p (qj t).1 (begin p),((qj t).1.length:Int),0)
theorem Tz(t:List Nat):oz t<=t.length:=by
 unfold oz;split
 ·omega
 ·split<;>omega
theorem jeI{t:List Nat}(h:oz t≠0):6<=oz t/\oz t=6+4*dI t 5/\dI t 5<=3:=by
 unfold oz at h ⊢
 split at h
 ·exact absurd rfl h
 ·rename_i h1
  rw[ay h1];split at h
  ·exact absurd rfl h
  ·rename_i h2
   rw[ay h2];omega
theorem Vr:∀(n:Nat) (t:List Nat),(rE n t).1.length<=n/\(rE n t).2<=t.length
 |0,t=>⟨au _,aK _⟩
 |n+1,t=>by
  rw[rE];split
  ·exact⟨aK _,aK _⟩
  ·have h1:=Vr n (t.drop (oz t));have h2:=Tz t;rw[fQ]at h1
   simp only[dw];omega
theorem jaK(x:yK):(OM x).length=6+4*x.aH.length:=by
 unfold OM;rw[aZ];have:∀l:List Line,(l.flatMap O8).length=4*l.length:=λl=>by
  induction l with
  |nil=>rfl
  |cons y r ih=>rw[kR,aZ,ih,dw];simp[O8];omega
 rw[this];rfl
theorem jbm(x:yK)(r:List Nat):dI (OM x++r) 5=x.aH.length:=by
 unfold OM dI;simp
theorem jc0{x:yK}(h:x.aH.length<=3)(r:List Nat):oz (OM x++r)=(OM x).length:=by
 have h1:=jaK x;have h2:=jbm x r;unfold oz;rw[aZ,h2,ay (by omega),ay (by omega),h1]
theorem L8{n:Int}:qJ n=true↔0<=n/\n<=255:=dV
theorem jcI:∀(l:List Line) (r:List Nat),l.all Jf=true->ql (l.flatMap O8++r) l.length=l
 |[],_,_=>rfl
 |x::l,r,h=>by
  rw[zl,bG]at h
  obtain⟨h1,h2⟩:=h;unfold Jf at h1
  simp only[bG,L8]at h1
  have e:(x::l).flatMap O8++r=x.dh.toNat::x.iw.toNat::x.oh.toNat::x.dP.toNat::(l.flatMap O8++r):=by
   rw[kR];rfl
  rw[e,dw,ql];have e2:(x.dh.toNat::x.iw.toNat::x.oh.toNat::x.dP.toNat::(l.flatMap O8++r)).drop 4=l.flatMap O8++r:=rfl;rw[e2,jcI l r h2];have e3:(⟨dI (x.dh.toNat::x.iw.toNat::x.oh.toNat::x.dP.toNat::(l.flatMap O8++r)) 0,dI (x.dh.toNat::x.iw.toNat::x.oh.toNat::x.dP.toNat::(l.flatMap O8++r)) 1,dI (x.dh.toNat::x.iw.toNat::x.oh.toNat::x.dP.toNat::(l.flatMap O8++r)) 2,dI (x.dh.toNat::x.iw.toNat::x.oh.toNat::x.dP.toNat::(l.flatMap O8++r)) 3⟩:Line)=x:=by
   have:(⟨((x.dh.toNat:Nat):Int),((x.iw.toNat:Nat):Int),((x.oh.toNat:Nat):Int),((x.dP.toNat:Nat):Int)⟩:Line)=x:=by
    cases x;simp only at h1
    simp only[Line.mk.injEq];omega
   exact this
  rw[e3]
theorem jcW{x:yK}(h:MS x=true)(r:List Nat):yI (OM x++r)=x:=by
 unfold MS at h
 simp only[bG,L8]at h
 have e1:(OM x++r).drop 6=x.aH.flatMap O8++r:=by
  unfold OM;rw[eH];rfl
 unfold yI;rw[e1,jbm,jcI _ _ h.2];have e2:(⟨((x.dW.toNat:Nat):Int),((x.a.toNat:Nat):Int),((x.b.toNat:Nat):Int),((x.c.toNat:Nat):Int),((x.n.toNat:Nat):Int),x.aH⟩:yK)=x:=by
  cases x;simp only at h
  simp only[yK.mk.injEq,mD];omega
 exact e2
theorem jc3{x:yK}(h:(IU x).2=0):MS x=true/\x.aH.length<=3/\(IU x).1=OM x:=by
 unfold IU at h ⊢
 cases h1:MS x
 ·rw[h1]at h;simp at h
 ·rw[h1]at h
  simp only[wH,iE,uH]at h ⊢
  split at h
  ·simp at h
  ·rename_i h2
   rw[ay h2];exact⟨trivial,by omega,rfl⟩
theorem jjZ{x:yK}{k:Nat}(hk:k<(OM x).length):oz ((OM x).take k)=0:=by
 have h1:=jaK x;have hl:((OM x).take k).length=k:=by rw[bT];omega
 unfold oz;rw[hl];by_cases h6:k<6
 ·rw[aB h6]
 ·rw[ay h6,aB];right
  have:dI ((OM x).take k) 5=x.aH.length:=by
   have e:=jbm x [];rw[iJ]at e
   rw[<- e];unfold dI;simp[List.getD,show 5<k by omega]
  rw[this];omega
def ok(x:yK):Prop:=MS x=true/\x.aH.length<=3
def textOf(l:List yK):List Nat:=l.flatMap OM
def whole:List yK->Nat->Nat
 |[],_=>0
 |x::l,k=>if(OM x).length<=k then whole l (k - (OM x).length)+1 else 0
theorem jcU:∀(l:List yK) (k:Nat),whole l k<=l.length
 |[],_=>au _
 |x::l,k=>by
  rw[whole];split
  ·have:=jcU l (k - (OM x).length);simp only[dw];omega
  ·exact aK _
theorem jcV:∀(n:Nat) (l:List yK) (k:Nat),(∀x∈l,ok x)->l.length<=n->(rE n ((textOf l).take k)).1=l.take (whole l k)
 |0,l,k,_,hn=>by
  obtain rfl:l=[]:=mP (by omega)
  rfl
 |n+1,[],k,_,_=>by
  have:(textOf []).take k=[]:=by simp[textOf]
  rw[this];rfl
 |n+1,x::l,k,h,hn=>by
  have hx:=h x (dS ..);have e:textOf (x::l)=OM x++textOf l:=kR ..;have h1:=jaK x;rw[e,whole];by_cases hk:(OM x).length<=k
  ·rw[aB hk,jaJ,kN hk,rE,jc0 hx.2,ay (by omega),jcW hx.1,List.drop_left,bC,jcV n l _ (λy hy=>h y (bP _ hy)) (by simpa using hn)]
  ·rw[ay hk,oG (by omega),rE,jjZ (by omega),aB rfl]
   rfl
theorem Qa(p:dA):∀(l m:List yK) (s:aJ),wL p (l++m) s=wL p m (wL p l s)
 |[],_,_=>rfl
 |x::l,m,s=>by
  rw[jK,wL,wL,Qa p l m]
theorem MK{p:dA}:∀ {l:List yK} {s:aJ},aQ p s=0->aQ p (wL p l s)=0
 |[],_,h=>h
 |x::l,s,h=>by
  rw[wL];refine MK ?_
  split
  ·rename_i h1
   exact(jcN h1).2.check
  ·exact h
section
variable {p:dA} {s:aJ} {b g:Nat} {jq t:Int}
theorem Ug(hs:o9 p s)(ht:t<=lZ s.aF b g):pV s b g t=s.aA:=gX.rest_none (HY hs b g) (by omega)
theorem UD{t':Int}(h:∀o k:Int,rH s b g t' o k=rH s b g t o k):zW s b g t'=zW s b g t:=by
 unfold zW;simp only[h]
theorem je2{l:List Move}(h:∀x∈l,¬(x.src=(b:Int)/\x.dh=(g:Int))):lZ l b g=0:=by
 unfold lZ;induction l with
 |nil=>rfl
 |cons x r ih=>
  rw[dn,iI,ih λy hy=>h y (bP _ hy)]
  unfold Aj;rw[ay (h x (dS ..))];rfl
theorem jds(hs:o9 p s)(ht:0<=t){k:Nat}(hk:k<(yN s b g t).length)(h1:(bH (yN s b g t) k).src=b/\(bH (yN s b g t) k).dh=g)(h2:∀j,k<j->j<(yN s b g t).length->¬((bH (yN s b g t) j).src=b/\(bH (yN s b g t) j).dh=g)):
  wM s b g jq (t+1)={wM s b g jq t with aF:=if(bH (yN s b g t) k).n=1 then(yN s b g t).eraseIdx k else(yN s b g t).set k {bH (yN s b g t) k with n:=(bH (yN s b g t) k).n - 1}}/\(∀o k:Int,rH s b g (t+1) o k=rH s b g t o k):=by
 have hp:=Kv hs b g;have kE:=gX.GY hp t;have wK:0<(Iq b g).all (yN s b g t):=by
  have:=gX.U3 (gX.ND hp t);have hany:((Iq b g).rest s.aF t).any (Iq b g).is=true:=lu.2 ⟨(yN s b g t)[k],bU hk,by rw[Rj,<- pI hk];exact h1⟩
  rw[hany]at this
  exact kQ this.symm
 change(Iq b g).all (yN s b g t)=_ at kE
 rw[Gg]at kE
 rw[Gg]at wK
 have hm:=yB hs b g;have hlt:t+1<=lZ s.aF b g:=by rw[Gg]at kE;omega
 have e1:yN s b g (t+1)=(Iq b g).dec (yN s b g t):=gX.Yz hp ht (by rw[Gg];exact hlt)
 have e2:=gX.jeu (C:=Iq b g) hk (by rw[Rj,<- pI hk];exact h1) (λj hj hkj=>by
  cases hi:(Iq b g).is (yN s b g t)[j]
  ·rfl
  ·rw[Rj,<- pI hj]at hi
   exact absurd hi (h2 j hkj hj))
 rw[<- pI hk]at e2
 have e3:pV s b g (t+1)=pV s b g t:=by rw[Ug hs hlt,Ug hs (by omega)]
 have e4:∀o k:Int,rH s b g (t+1) o k=rH s b g t o k:=λo k=>by unfold rH;rw[e3]
 refine⟨?_,e4⟩
 refine aJ.ext' rfl (UD e4) e3 ?_ rfl rfl rfl
 show yN s b g (t+1)=_;rw[e1,e2];rfl
theorem jbG{l:List dZ}(hl:iD l=true){k:Nat}(hk:k<l.length):bW l (hold l k).aC (hold l k).aG (hold l k).bin=(hold l k).n:=by
 obtain⟨h1,h2⟩:=gG.1 hl;rw[iL hk];exact Df h1 h2 (bU hk)
theorem jj6{l:List dZ}(hl:iD l=true){k:Nat}(hk:k<l.length)(m:Int):jH l {hold l k with n:=m}=if m=0 then l.eraseIdx k else l.set k {hold l k with n:=m}:=by
 have hp:pos l (hold l k)=k:=pos_eq (jh hk) (λi hi=>jbo hl hi hk) (λ_=>Int.le_of_eq (G6.2 ⟨rfl,rfl,rfl⟩).symm)
 have hf:zN l (hold l k)=true:=yV.2 ⟨by rw[hp];exact hk,by rw[hp];exact G6.2 ⟨rfl,rfl,rfl⟩⟩
 have xB:=Hy hl hk;split
 ·rename_i h0
  rw[Yk hl (h:={hold l k with n:=m}) xB h0 (by rw[jan];exact hf),jhB,hp]
 ·rename_i h0
  rw[Yj hl (h:={hold l k with n:=m}) xB h0 (by rw[jan];exact hf),jhB,hp]
theorem jdt(hs:o9 p s)(ht:0<=t)(h0:∀x∈yN s b g t,¬(x.src=(b:Int)/\x.dh=(g:Int))){k:Nat}(hk:k<(pV s b g t).length)
  (h1:(yt s b g).is (hold (pV s b g t) k)=true) (h2:∀j,k<j->j<(pV s b g t).length->(yt s b g).is (hold (pV s b g t) j)=false) {i j:Nat} (hi:(hold (pV s b g t) k).aC=i) (hj:(hold (pV s b g t) k).aG=j) (hio:i<s.ak.length) (hjl:j<(s.aC i).aH.length):
  wM s b g jq (t+1)=({wM s b g jq t with aA:=jH (pV s b g t) {hold (pV s b g t) k with n:=(hold (pV s b g t) k).n - 1}}:aJ).lY i j {(wM s b g jq t).aG i j with dP:=((wM s b g jq t).aG i j).dP+1}/\
  ∀o k:Nat,rH s b g (t+1) o k=rH s b g t o k+if o=i/\k=j then 1 else 0:=by
 have hok:=Jt hs b g t;have jbW:=gX.GY (Kv hs b g) t;change(Iq b g).all (yN s b g t)=_ at jbW
 rw[Gg,Gg,je2 h0]at jbW
 have hm:=yB hs b g;have hge:lZ s.aF b g<=t:=by omega
 have hp:=HY hs b g;have kE:=gX.GY hp (t - lZ s.aF b g);have wK:0<(yt s b g).all (pV s b g t):=by
  have:=gX.U3 (gX.ND hp (t - lZ s.aF b g));have hany:((yt s b g).rest s.aA (t - lZ s.aF b g)).any (yt s b g).is=true:=lu.2 ⟨(pV s b g t)[k],bU hk,by rw[<- iL hk];exact h1⟩
  rw[hany]at this
  exact kQ this.symm
 change(yt s b g).all (pV s b g t)=_ at kE
 have e0:t+1 - lZ s.aF b g=(t - lZ s.aF b g)+1:=by omega
 have e1:pV s b g (t+1)=(yt s b g).dec (pV s b g t):=by
  show(yt s b g).rest s.aA (t+1 - lZ s.aF b g)=_;rw[e0];exact gX.Yz hp (by omega) (by omega)
 have e2:=gX.jeu (C:=yt s b g) hk (by rw[<- iL hk];exact h1) (λj hj hkj=>by rw[<- iL hj];exact h2 j hkj hj)
 rw[<- iL hk]at e2
 have e3:pV s b g (t+1)=jH (pV s b g t) {hold (pV s b g t) k with n:=(hold (pV s b g t) k).n - 1}:=by
  rw[e1,e2,jj6 hok hk];show(if(hold (pV s b g t) k).n=1 then _ else _)=_
  by_cases hz:(hold (pV s b g t) k).n=1
  ·rw[aB hz,aB (by omega)]
  ·rw[ay hz,ay (by omega)]
   rfl
 have e4:yN s b g (t+1)=yN s b g t:=by
  show((Iq b g).cut s.aF (t+1)).1.filter _=((Iq b g).cut s.aF t).1.filter _;rw[gX.RP (λx hx=>by have:=Kv hs b g x hx;omega) (by rw[Gg];omega),gX.RP (λx hx=>by have:=Kv hs b g x hx;omega) (by rw[Gg];omega)]
 have xB:=Hy hok hk;have jb5:=(ES.1 h1).1;have hn:=jfS hok hk;have e5:∀o k':Nat,rH s b g (t+1) o k'=rH s b g t o k'+if o=i/\k'=j then 1 else 0:=λo k'=>by
  unfold rH;rw[e3,ER (h:={hold (pV s b g t) k with n:=(hold (pV s b g t) k).n - 1}) hok xB (by simp only;omega)]
  have hkh:=jbG hok hk;simp only;rw[hi,hj,jb5]at hkh ⊢
  by_cases hq:o=i/\k'=j
  ·obtain⟨rfl,rfl⟩:=hq;rw[aB ⟨rfl,rfl,rfl⟩,aB ⟨rfl,rfl⟩,hkh];omega
  ·rw[ay (by omega),ay hq]
   omega
 refine⟨?_,e5⟩
 have kD:(wM s b g jq t).ak.length=s.ak.length:=uD;refine aJ.ext' rfl ?_ e3 e4 rfl rfl rfl
 show zW s b g (t+1)=(zW s b g t).set i {(wM s b g jq t).aC i with aH:=((wM s b g jq t).aC i).aH.set j {(wM s b g jq t).aG i j with dP:=((wM s b g jq t).aG i j).dP+1}}
 rw[Ef hio hjl,Pn i hio];unfold zW;apply lW
 ·simp
 ·intro a ha1 ha2;have ha:a<s.ak.length:=by simpa using ha1
  rw[lN,zS];have ea:s.aC a=s.ak[a]:=uy ha;by_cases hai:i=a
  ·subst hai;rw[aB rfl,ea];simp only[Order.mk.injEq,mg];rw[ea]at hjl
   apply lW
   ·simp
   ·intro c hc1 hc2;have hc:c<s.ak[i].aH.length:=by simpa using hc1
    rw[lN,zS,e5];by_cases hcj:j=c
    ·subst hcj;have el:s.aG i j=s.ak[i].aH[j]:=by unfold aJ.aG;rw[ea,qw hc]
     rw[aB rfl,aB ⟨rfl,rfl⟩,el];simp only[Line.mk.injEq,mg];omega
    ·rw[ay hcj,ay (by omega),lN,jC]
  ·rw[ay hai,lN];simp only[Order.mk.injEq,mg];apply lW
   ·simp
   ·intro c hc1 hc2;rw[lN,lN,e5,ay (by omega),jC]
theorem jdr(hs:o9 p s)(ht:0<=t)(hlt:t<bound s b g)(h0:∀x∈yN s b g t,¬(x.src=(b:Int)/\x.dh=(g:Int))):((pV s b g t).any (yt s b g).is)=true:=by
 have jbW:=gX.GY (Kv hs b g) t;change(Iq b g).all (yN s b g t)=_ at jbW
 rw[Gg,Gg,je2 h0]at jbW
 have hp:=HY hs b g;have hm:=yB hs b g;have kE:=gX.GY hp (t - lZ s.aF b g);have:=gX.U3 (gX.ND hp (t - lZ s.aF b g));show((yt s b g).rest s.aA (t - lZ s.aF b g)).any (yt s b g).is=true;rw[this,kE,jd6];unfold bound pK at hlt
 exact iG (by omega)
end
end Wh
