/- Texts of the claim, joined. -/
import Derived.Test.YtniaecolikhmeaaGreatDoorQ02
set_option maxHeartbeats 20000000
set_option maxRecDepth 100000
set_option linter.all false
namespace Wh
structure iw(α:Type) where
 is:α->Bool
 num:α->Int
 put:α->Int->α
 KZ:∀x n,num (put x n)=n
 jiX:∀x n,is (put x n)=is x
 jls:∀x n m,put (put x n) m=put x m
 jaC:∀x,put x (num x)=x
namespace iw
variable {α:Type} (C:iw α)
def part(x:α):Int:=if C.is x=true then C.num x else 0
def all(l:List α):Int:=(l.map C.part).sum
def less(v n:Int):Int:=min n (max v 0)
def cut:List α->Int->List α×Int
 |[],v=>([],v)
 |x::r,v=>if C.is x=true then(C.put x (C.num x - less (cut r v).2 (C.num x))::(cut r v).1,(cut r v).2 - less (cut r v).2 (C.num x))else(x::(cut r v).1,(cut r v).2)
def keep(x:α):Bool:=!decide (C.num x=0)
def rest(l:List α)(v:Int):List α:=(C.cut l v).1.filter C.keep
def dec:List α->List α
 |[]=>[]
 |x::r=>if r.any C.is=true then x::dec r else if C.is x=true then(if C.num x=1 then r else C.put x (C.num x - 1)::r)else x::r
def Pos(l:List α):Prop:=∀x∈l,1<=C.num x
variable {C}
theorem Pos.cons{x:α}{r:List α}(h:C.Pos (x::r)):1<=C.num x/\C.Pos r:=⟨h x (bW ..),λy hy=>h y (aY _ hy)⟩
theorem all_cons(x:α)(r:List α):C.all (x::r)=C.part x+C.all r:=by unfold all;rw[dJ,iL]
theorem FI{l:List α}(h:∀x∈l,0<=C.num x):0<=C.all l:=by
 induction l with
 |nil=>exact iT _
 |cons x r ih=>
  have h1:=h x (bW ..);have h2:=ih λy hy=>h y (aY _ hy)
  rw[all_cons];unfold part;split<;>omega
theorem Pos.nonneg{l:List α}(h:C.Pos l):0<=C.all l:=FI λx hx=>by have:=h x hx;omega
theorem VT{l:List α}(h:C.Pos l):l.any C.is=decide (0<C.all l):=by
 induction l with
 |nil=>rfl
 |cons x r ih=>
  obtain⟨h1,h2⟩:=h.cons;have h3:=h2.nonneg;rw[zJ,ih h2,all_cons];unfold part;cases hx:C.is x
  ·simp
  ·simp
   omega
theorem ER{x:α}(hx:C.is x=true)(r:List α)(v:Int):C.cut (x::r) v=(C.put x (C.num x - less (C.cut r v).2 (C.num x))::(C.cut r v).1,(C.cut r v).2 - less (C.cut r v).2 (C.num x)):=by rw[cut,aB hx]
theorem EH{x:α}(hx:C.is x=false)(r:List α)(v:Int):C.cut (x::r) v=(x::(C.cut r v).1,(C.cut r v).2):=by rw[cut,au (by rw[hx];simp)]
theorem Kw{l:List α}(h:∀x∈l,0<=C.num x)(v:Int):(C.cut l v).2=v - min (max v 0) (C.all l):=by
 induction l with
 |nil=>show v=v - min (max v 0) 0;omega
 |cons x r ih=>
  have h1:=h x (bW ..);have hr:=λy hy=>h y (aY _ hy)
  have h2:=ih hr;have h3:=FI hr;rw[all_cons];unfold part;cases hx:C.is x
  ·rw[EH hx];simp only[iV,uY];omega
  ·rw[ER hx];simp only[wW];unfold less;omega
theorem RQ(l:List α)(v:Int):(C.cut l v).1.length=l.length:=by
 induction l with
 |nil=>rfl
 |cons x r ih=>
  cases hx:C.is x
  ·rw[EH hx];simp[ih]
  ·rw[ER hx];simp[ih]
theorem jms{l:List α}(h:∀x∈l,0<=C.num x)(v:Int):C.all (C.cut l v).1=C.all l - min (max v 0) (C.all l):=by
 induction l with
 |nil=>show(0:Int)=0 - min (max v 0) 0;omega
 |cons x r ih=>
  have h1:=h x (bW ..);have hr:=λy hy=>h y (aY _ hy)
  have h2:=ih hr;have h3:=FI hr;have h4:=Kw hr v;rw[all_cons];cases hx:C.is x
  ·rw[EH hx];simp only;rw[all_cons];unfold part;rw[hx];simp only[iV,uY];omega
  ·rw[ER hx];simp only;rw[all_cons];unfold part;rw[C.jiX,hx,C.KZ];simp only[wW];unfold less;omega
theorem jgq{l:List α}(h:∀x∈l,0<=C.num x)(v:Int):∀y∈(C.cut l v).1,∃x∈l,y=C.put x (C.num y)/\0<=C.num y/\C.num y<=C.num x/\(C.is x=false->y=x):=by
 induction l with
 |nil=>intro y hy;simp[cut]at hy
 |cons x r ih=>
  have h1:=h x (bW ..);have hr:=λy hy=>h y (aY _ hy)
  intro y hy;cases hx:C.is x
  ·rw[EH hx]at hy
   rcases fF.1 hy with rfl|hy
   ·exact⟨y,bW ..,(C.jaC y).symm,h1,iT _,λ_=>rfl⟩
   ·obtain⟨z,hz,h2⟩:=ih hr y hy;exact⟨z,aY _ hz,h2⟩
  ·rw[ER hx]at hy
   rcases fF.1 hy with rfl|hy
   ·refine⟨x,bW ..,?_,?_,?_,λh=>by rw[hx]at h;cases h⟩
    ·rw[C.KZ]
    ·rw[C.KZ];unfold less;omega
    ·rw[C.KZ];unfold less;omega
   ·obtain⟨z,hz,h2⟩:=ih hr y hy;exact⟨z,aY _ hz,h2⟩
theorem X7{l:List α}(h:∀x∈l,0<=C.num x){v:Int}(hv:v<=0):(C.cut l v).1=l:=by
 induction l with
 |nil=>rfl
 |cons x r ih=>
  have h1:=h x (bW ..);have hr:=λy hy=>h y (aY _ hy)
  have h2:=Kw hr v;have h3:=FI hr;cases hx:C.is x
  ·rw[EH hx,ih hr]
  ·rw[ER hx,ih hr];simp only;have:less (C.cut r v).2 (C.num x)=0:=by unfold less;omega
   rw[this,qx,C.jaC]
theorem jmr{l:List α}(h:∀x∈l,0<=C.num x)(v:Int):(C.cut l v).1=(C.cut l (max v 0)).1:=by
 by_cases hv:v<=0
 ·rw[X7 h hv,X7 h (by omega)]
 ·rw[show max v 0=v by omega]
theorem Tt{l:List α}(h:∀x∈l,0<=C.num x){v:Int}(hv:C.all l<=v):(C.cut l v).1=l.map λx=>if C.is x=true then C.put x 0 else x:=by
 induction l with
 |nil=>rfl
 |cons x r ih=>
  have h1:=h x (bW ..);have hr:=λy hy=>h y (aY _ hy)
  have h2:=Kw hr v;have h3:=FI hr;rw[all_cons]at hv
  unfold part at hv
  cases hx:C.is x
  ·rw[hx]at hv
   simp only[iV,uY]at hv
   rw[EH hx,ih hr (by omega),dJ,hx]
   rfl
  ·rw[hx]at hv
   simp only[wW]at hv
   rw[ER hx,ih hr (by omega),dJ,hx]
   simp only[wW];have:less (C.cut r v).2 (C.num x)=C.num x:=by unfold less;omega
   rw[this,Int.sub_self]
theorem rest_none{l:List α}(h:C.Pos l){v:Int}(hv:v<=0):C.rest l v=l:=by
 unfold rest;rw[X7 (λx hx=>by have:=h x hx;omega) hv]
 refine oN.2 λx hx=>?_
 have:=h x hx;unfold keep;simp
 omega
theorem WE{l:List α}(h:C.Pos l)(v:Int):C.rest l v=C.rest l (max v 0):=by
 unfold rest;rw[jmr (λx hx=>by have:=h x hx;omega)]
theorem Oy{l:List α}(h:C.Pos l)(v:Int):C.Pos (C.rest l v):=λy hy=>by
 obtain⟨h1,h2⟩:=jX.1 hy;obtain⟨x,_,_,h3,_⟩:=jgq (λx hx=>by have:=h x hx;omega) v y h1
 unfold keep at h2
 simp at h2
 omega
theorem all_filter(l:List α):C.all (l.filter C.keep)=C.all l:=by
 induction l with
 |nil=>rfl
 |cons x r ih=>
  rw[kS,all_cons];split
  ·rw[all_cons,ih]
  ·rename_i hk
   unfold keep at hk
   simp at hk
   rw[ih];unfold part;rw[hk];split<;>omega
theorem Iz{l:List α}(h:C.Pos l)(v:Int):C.all (C.rest l v)=C.all l - min (max v 0) (C.all l):=by
 unfold rest;rw[all_filter,jms (λx hx=>by have:=h x hx;omega)]
theorem JU{l:List α}(h:C.Pos l)(v:Int):∀y∈C.rest l v,∃x∈l,y=C.put x (C.num y)/\1<=C.num y/\C.num y<=C.num x/\(C.is x=false->y=x):=λy hy=>by
 have h0:=Oy h v y hy;obtain⟨x,h1,h2,_,h4⟩:=jgq (λx hx=>by have:=h x hx;omega) v y (jX.1 hy).1
 exact⟨x,h1,h2,h0,h4⟩
theorem Zr{l:List α}(h:C.Pos l){t:Int}(ht:0<=t)(hl:t+1<=C.all l):C.rest l (t+1)=C.dec (C.rest l t):=by
 induction l with
 |nil=>exact absurd hl (by show ¬t+1<=0;omega)
 |cons x r ih=>
  obtain⟨h1,hr⟩:=h.cons;have hr0:∀y∈r,0<=C.num y:=λy hy=>by have:=hr y hy;omega
  have a0:=Kw hr0 t;have a1:=Kw hr0 (t+1);have a2:=hr.nonneg;have hany:=VT (Oy hr t);rw[Iz hr]at hany
  rw[all_cons]at hl
  unfold part at hl
  unfold rest at ih hany ⊢
  by_cases hA:t+1<=C.all r
  ·have jgk:((C.cut r t).1.filter C.keep).any C.is=true:=by rw[hany];simp;omega
   have ih':=ih hr hA;have hkx:C.keep x=true:=by unfold keep;simp;omega
   cases hx:C.is x
   ·rw[EH hx,EH hx];simp only;rw[jC hkx,jC hkx,dec,aB jgk,ih']
   ·rw[ER hx,ER hx];simp only;have e0:less (C.cut r t).2 (C.num x)=0:=by unfold less;omega
    have e1:less (C.cut r (t+1)).2 (C.num x)=0:=by unfold less;omega
    rw[e0,e1,qx,C.jaC,jC hkx,jC hkx,dec,aB jgk,ih']
  ·cases hx:C.is x
   ·rw[hx]at hl
    simp only[iV,uY]at hl
    omega
   ·rw[hx]at hl
    simp only[wW]at hl
    have jgk:((C.cut r t).1.filter C.keep).any C.is=false:=by rw[hany];simp;omega
    have e0:less (C.cut r t).2 (C.num x)=t - C.all r:=by unfold less;omega
    have e1:less (C.cut r (t+1)).2 (C.num x)=t+1 - C.all r:=by unfold less;omega
    have e2:(C.cut r (t+1)).1=(C.cut r t).1:=by rw[Tt hr0 (by omega),Tt hr0 (by omega)]
    rw[ER hx,ER hx];simp only;rw[e0,e1,e2];have hk0:C.keep (C.put x (C.num x - (t - C.all r)))=true:=by unfold keep;rw[C.KZ];simp;omega
    rw[jC hk0,dec,au (by rw[jgk];simp),C.jiX,aB hx,C.KZ,C.jls]
    by_cases hz:C.num x - (t - C.all r)=1
    ·rw[aB hz,kZ (by unfold keep;rw[C.KZ];simp;omega)]
    ·rw[au hz,jC (by unfold keep;rw[C.KZ];simp;omega)]
     congr 2
     omega
theorem jfs:∀ {l:List α} {k:Nat} (hk:k<l.length),C.is l[k]=true->(∀j (hj:j<l.length),k<j->C.is l[j]=false)->C.dec l=if C.num l[k]=1 then l.eraseIdx k else l.set k (C.put l[k] (C.num l[k] - 1))
 |x::r,0,_,h1,h2=>by
  have hany:r.any C.is=false:=by
   rw[qo];intro y hy;obtain⟨j,hj,rfl⟩:=bg hy;have:=h2 (j+1) (by simpa using hj) (by omega)
   simp at this
   simp[this]
  simp only[Bq]at h1 ⊢
  rw[dec,au (by rw[hany];simp),aB h1]
  rfl
 |x::r,k+1,hk,h1,h2=>by
  have hk':k<r.length:=by simpa using hk
  simp only[pF]at h1 ⊢
  have hany:r.any C.is=true:=kU.2 ⟨r[k],dh hk',h1⟩;rw[dec,aB hany,jfs hk' h1 (λj hj hkj=>by have:=h2 (j+1) (by simpa using hj) (by omega);simpa using this)]
  split
  ·rfl
  ·rfl
end iw
def preS(s:aI)(o k b:Nat)(n:Int):aI:=
 {s with on:=setCell s.on b (s.aK o k).dW.toNat (cell s.on b (s.aK o k).dW.toNat - n),O:=s.O.set (s.aK o k).dW.toNat (aZ s.O (s.aK o k).dW.toNat+n),aA:=jE s.aA ⟨o,k,b,0⟩}
theorem Zu(s:aI)(o k b:Nat)(held n:Int):qh s o k b held n=(preS s o k b n).mD o k {s.aK o k with qI:=(s.aK o k).qI+n,eU:=(s.aK o k).eU+held - n}:=rfl
structure GY(p:dG)(s:aI)(o k b:Nat)(n:Int):Prop where
 ho:o<s.ak.length
 hk:k<(s.aC o).aH.length
 hb:b<p.dP.length
 held:1<=dD s.aA o k b
 n0:0<=n
 n1:n<=dD s.aA o k b
 O:aZ s.O (s.aK o k).dW.toNat+n<=1048576
section
variable {p:dG} {s:aI} {o k b:Nat} {n:Int}
theorem Le{l:List eX}(hl:iI l=true)(o ln:Int)(b:Nat):dD l o ln b<=kept l o ln:=by
 by_cases hb:b<6
 ·rw[Hy hl];have h0:∀i,i<6->0<=dD l o ln i:=λi _=>Mc hl _ _ _
  have:∀m,b<m->m<=6->dD l o ln b<=ny (λi=>dD l o ln i) m:=by
   intro m;induction m with
   |zero=>intro h;omega
   |succ m ih=>
    intro h h6;have hs:∀q,q<=6->0<=ny (λi=>dD l o ln i) q:=by
     intro q;induction q with
     |zero=>intro _;exact iT _
     |succ q ih=>intro hq;have:=ih (by omega);have:=h0 q (by omega);show 0<=ny (λi=>dD l o ln i) q+dD l o ln q;omega
    show _<=ny _ m+dD l o ln m;by_cases e:b=m
    ·subst e;have:=hs b (by omega)
     omega
    ·have:=ih (by omega) (by omega)
     have:=h0 m (by omega)
     omega
  exact this 6 hb (by omega)
 ·have h1:=wH hl o ln;by_cases h0:dD l o ln b=0
  ·rw[h0];exact h1.1
  ·have:=(Ee (gI.1 hl).1 (gI.1 hl).2 h0).1;unfold sJ at this
   omega
theorem QW(h:lu p s)(f:GY p s o k b n):((s.aK o k).dW.toNat:Int)=(s.aK o k).dW/\(s.aK o k).dW.toNat<p.aW.length:=by
 have:=(h.sane.aK f.ho f.hk).1;omega
theorem Np(h:lu p s)(f:GY p s o k b n):(s.aC o).eH=1:=by
 have h1:=h.BU f.ho f.hk;have h2:=h.sane.eH f.ho;have h3:=Le h.sane.aA o k b;have h4:=f.held;have h5:=h.sane.aK f.ho f.hk;have h6:(s.aC o).eH≠0:=λe=>by rw[aB e]at h1;omega
 have h7:(s.aC o).eH≠2:=λe=>h1.2 ⟨e,by omega⟩
 omega
theorem jeq(h:lu p s)(f:GY p s o k b n):dD s.aA o k b<=bound s b (s.aK o k).dW/\bound s b (s.aK o k).dW<=cell s.on b (s.aK o k).dW.toNat/\cell s.on b (s.aK o k).dW.toNat<=200:=by
 obtain⟨e,hg⟩:=QW h f;have h1:=UO h.sane o k b;have h2:=yP h.sane b (s.aK o k).dW;have h3:=h.bnd f.hb hg;rw[e]at h3
 have h4:=h.sane.cell f.hb hg;simp only[dn]at h1
 exact⟨by unfold bound;omega,h3,h4.2⟩
theorem DY(f:GY p s o k b n)(held:Int)(o' k':Nat):(qh s o k b held n).aK o' k'=if o'=o/\k'=k then {s.aK o k with qI:=(s.aK o k).qI+n,eU:=(s.aK o k).eU+held - n}else s.aK o' k':=
 Nu (s:=preS s o k b n) f.ho f.hk _ o' k'
theorem FP(f:GY p s o k b n)(held:Int)(o':Nat):((qh s o k b held n).aC o').eH=(s.aC o').eH:=SL (s:=preS s o k b n) f.ho _ _ _
theorem Eu(f:GY p s o k b n)(held:Int)(o':Nat):((qh s o k b held n).aC o').aH.length=(s.aC o').aH.length:=LM (s:=preS s o k b n) f.ho _ _ _
theorem oZ(held:Int):(qh s o k b held n).ak.length=s.ak.length:=JY _ _ _ _
theorem Jt(f:GY p s o k b n)(held:Int)(o' k':Nat):((qh s o k b held n).aK o' k').dW=(s.aK o' k').dW/\((qh s o k b held n).aK o' k').jk=(s.aK o' k').jk:=by
 rw[DY f];split
 ·rename_i hq
  obtain⟨rfl,rfl⟩:=hq;exact⟨rfl,rfl⟩
 ·exact⟨rfl,rfl⟩
theorem WQ(h:lu p s)(f:GY p s o k b n)(held:Int):iI (qh s o k b held n).aA=true:=
 VD (h:=⟨o,k,b,0⟩) h.sane.aA (J6 h.sane f.ho f.hk f.hb) ⟨iT _,by show(0:Int)<=200;omega⟩
theorem YK(h:lu p s)(f:GY p s o k b n)(held:Int)(o' k' b':Int):dD (qh s o k b held n).aA o' k' b'=if(o:Int)=o'/\(k:Int)=k'/\(b:Int)=b' then 0 else dD s.aA o' k' b':=by
 have e:=FW (h:=⟨o,k,b,0⟩) h.sane.aA (J6 h.sane f.ho f.hk f.hb) ⟨iT _,by show(0:Int)<=200;omega⟩ o' k' b'
 exact e
theorem UH(h:lu p s)(f:GY p s o k b n)(held:Int)(o' k':Int):kept (qh s o k b held n).aA o' k'=kept s.aA o' k' - if(o:Int)=o'/\(k:Int)=k' then dD s.aA o k b else 0:=by
 have e:=ZH (h:=⟨o,k,b,0⟩) h.sane.aA (J6 h.sane f.ho f.hk f.hb) ⟨iT _,by show(0:Int)<=200;omega⟩ o' k'
 refine e.trans ?_
 simp only;split<;>omega
theorem jaE(h:lu p s)(f:GY p s o k b n)(held:Int)(b' g:Int):bound (qh s o k b held n) b' g=bound s b' g - if(b:Int)=b'/\(s.aK o k).dW=g then dD s.aA o k b else 0:=by
 have e1:pO (qh s o k b held n) b' g=pO {s with aA:=jE s.aA ⟨o,k,b,0⟩} b' g:=
  NI (s:={s with aA:=jE s.aA ⟨o,k,b,0⟩}) (t:=qh s o k b held n) rfl (λo' k'=>(Jt f held o' k').1) b' g
 have e2:=UY (s:=s) (h:=⟨o,k,b,0⟩) h.sane.aA (J6 h.sane f.ho f.hk f.hb) b' g;unfold bound;rw[e1,e2];simp only[dn];have:mF (qh s o k b held n).aF b' g=mF s.aF b' g:=rfl;rw[this];split<;>omega
theorem Gi(h:lu p s)(f:GY p s o k b n):lu p (qh s o k b (dD s.aA o k b) n):=by
 obtain⟨e,hg⟩:=QW h f;obtain⟨c1,c2,c3⟩:=jeq h f;have hkd:=Np h f;have hn0:=f.n0;have hn1:=f.n1;have hout:=f.O;have hs:=h.sane;have hbl:b<s.on.length:=by rw[hs.sO];exact f.hb
 have hgl:(s.aK o k).dW.toNat<(fO s.on b).length:=by rw[hs.rowLen f.hb];exact hg
 have hol:(s.aK o k).dW.toNat<s.O.length:=by rw[hs.O.1];exact hg
 have hls:=h.BU f.ho f.hk;have hln:=hs.aK f.ho f.hk;have hkk:=Le hs.aA o k b;rw[au (by omega)]at hls
 refine lu.of (pz.of ?_ (by rw[oZ];exact hs.nX) hs.uf (λo' ho'=>?_) (λo' k' ho' hk'=>?_) (WQ h f _) (λx hx=>?_) (λx hx=>bJ.1 (eG.1 hs.form).2.2.2.1 x hx)
  (eG.1 hs.form).2.2.2.2.1 (Na (eG.1 hs.form).2.2.2.2.2.1 hol (by have:=(hs.O.2 hg).1;omega) hout) (eG.1 hs.form).2.2.2.2.2.2) (λg hg'=>?_) (λb' g hb' hg'=>?_) (λo' k' ho' hk'=>?_)
 ·exact jR.2 ⟨hs.plan,Nc (jR.1 hs.shelf).2 (by omega) f.hb hg⟩
 ·rw[oZ]at ho'
  rw[Eu f,FP f];exact⟨hs.rE ho',hs.eH ho'⟩
 ·rw[oZ]at ho'
  rw[Eu f]at hk'
  have hl:=hs.aK ho' hk';rw[DY f,rO];split
  ·rename_i hq
   obtain⟨rfl,rfl⟩:=hq;simp only;omega
  ·exact hl
 ·have hin:zy p s x=true:=by
   rcases JM.1 hx with⟨h1,_⟩|⟨_,h1⟩
   ·exact bJ.1 (eG.1 hs.form).2.2.1 x h1
   ·exact absurd rfl h1
  have:=og.1 hin;exact og.2 ⟨by rw[oZ];exact this.1,by rw[Eu f];exact this.2.1,this.2.2⟩
 ·have h1:=h.sum hg';have e1:Du (qh s o k b (dD s.aA o k b) n).on g=_:=EX (n:=cell s.on b (s.aK o k).dW.toNat - n) hbl hgl g;have e2:aZ (qh s o k b (dD s.aA o k b) n).O g=if g=(s.aK o k).dW.toNat then aZ s.O (s.aK o k).dW.toNat+n else aZ s.O g:=JE hol
  have e3:aZ (qh s o k b (dD s.aA o k b) n).jf g=aZ s.jf g:=rfl;have e4:aZ (qh s o k b (dD s.aA o k b) n).dB g=aZ s.dB g:=rfl;rw[e1,e2,e3,e4];split
  ·rename_i hq
   subst hq;omega
  ·omega
 ·have h1:=h.bnd hb' hg';rw[jaE h f];have e1:cell (qh s o k b (dD s.aA o k b) n).on b' g=if b'=b/\g=(s.aK o k).dW.toNat then cell s.on b (s.aK o k).dW.toNat - n else cell s.on b' g:=pU hbl hgl
  rw[e1];by_cases hq:b'=b/\g=(s.aK o k).dW.toNat
  ·rw[aB hq,aB ⟨by omega,by omega⟩]
   obtain⟨rfl,rfl⟩:=hq;rw[e];omega
  ·rw[au hq,au (by omega)]
   omega
 ·rw[oZ]at ho'
  rw[Eu f]at hk'
  obtain⟨l1,l2⟩:=h.BU ho' hk';obtain⟨g1,g2⟩:=Jt f (dD s.aA o k b) o' k';refine uP.2 ?_
  rw[g2,UH h f,FP f,DY f];by_cases hq:o'=o/\k'=k
  ·obtain⟨rfl,rfl⟩:=hq;rw[aB ⟨rfl,rfl⟩,aB ⟨rfl,rfl⟩,au (by omega)]
   simp only;exact⟨by omega,by omega⟩
  ·rw[au hq,au (by omega),qx]
   exact⟨l1,l2⟩
theorem JV(h:lu p s)(f:GY p s o k b n):May (qh s o k b (dD s.aA o k b) n) o k (dD s.aA o k b - n):=by
 have hln:=(h.sane.aK f.ho f.hk).2.2.2.1;refine⟨by rw[oZ];exact f.ho,by rw[Eu f];exact f.hk,by rw[FP f];exact Np h f,by have:=f.n1;omega,?_⟩
 rw[DY f,aB ⟨rfl,rfl⟩];simp only;omega
def EI(p:dG)(s:aI)(o k b:Nat)(n:Int):aI:=(qM p (qh s o k b (dD s.aA o k b) n) o k (dD s.aA o k b - n) b).1
theorem JX:BF p s o k b n=close (EI p s o k b n) o:=rfl
theorem JW(h:lu p s)(f:GY p s o k b n):
  Held p (qh s o k b (dD s.aA o k b) n) (EI p s o k b n) o k (dD s.aA o k b - n - (qM p (qh s o k b (dD s.aA o k b) n) o k (dD s.aA o k b - n) b).2)/\0<=(qM p (qh s o k b (dD s.aA o k b) n) o k (dD s.aA o k b - n) b).2/\
  (qM p (qh s o k b (dD s.aA o k b) n) o k (dD s.aA o k b - n) b).2<=dD s.aA o k b - n:=QT (Gi h f) (JV h f)
theorem QU{o k b:Nat}:∀ {bs:List Nat} {s:aI} {n:Int},lu p s->(∀x∈bs,x<p.dP.length)->May s o k n->dD (uM o k (b:Int) bs s n).1.aA o k b=dD s.aA o k b
 |[],_,_,_,_,_=>rfl
 |c::r,s,n,h,hb,hm=>by
  by_cases hq:(c:Int)=b\/min n (lW s c (s.aK o k).dW)<1
  ·rw[zM hq];exact QU h (λx hx=>hb x (aY _ hx)) hm
  ·rw[Hl (by omega) (by omega)]
   have f:=hm.fits (p:=p) (b:=c) (m:=min n (lW s c (s.aK o k).dW)) (hb c (bW ..)) (by omega) (by omega) (by omega)
   have h1:=Held.one h f;rw[QU h1.right (λx hx=>hb x (aY _ hx)) (hm.held h1 (by omega)),NG h f,au (by omega),je]
theorem Lu(t:aI)(o:Nat)(ho:o<t.ak.length)(o':Nat):(close t o).aC o'=if o'=o/\pq (t.aC o)=true then {t.aC o with eH:=2}else t.aC o':=by
 unfold close;by_cases ha:pq (t.aC o)=true
 ·rw[aB ha];have:aI.aC {t with ak:=t.ak.set o {t.aC o with eH:=2}} o'=if o'=o then {t.aC o with eH:=2}else t.aC o':=FT ho _ _
  rw[this];by_cases e:o'=o
  ·rw[aB e,aB ⟨e,ha⟩]
  ·rw[au e,au (λh=>e h.1)]
 ·rw[au ha,au (λh=>ha h.2)]
theorem BK(t:aI)(o:Nat)(ho:o<t.ak.length)(o':Nat):((close t o).aC o').aH=(t.aC o').aH:=by
 rw[Lu t o ho];split
 ·rename_i h;rw[h.1]
 ·rfl
theorem FD(t:aI)(o:Nat)(ho:o<t.ak.length)(o' k':Nat):(close t o).aK o' k'=t.aK o' k':=by
 unfold aI.aK;rw[BK t o ho]
theorem Ih(t:aI)(o:Nat):(close t o).ak.length=t.ak.length:=by
 unfold close;split<;>simp
theorem FC(t:aI)(o:Nat):(close t o).on=t.on/\(close t o).aA=t.aA/\(close t o).aF=t.aF/\(close t o).jf=t.jf/\(close t o).O=t.O/\(close t o).dB=t.dB:=by
 unfold close;split<;>exact⟨rfl,rfl,rfl,rfl,rfl,rfl⟩
theorem U9(t:aI)(o:Nat)(ho:o<t.ak.length)(b g:Int):bound (close t o) b g=bound t b g:=by
 have e:pO (close t o) b g=pO t b g:=NI (FC t o).2.1 (λo' k'=>by rw[FD t o ho]) b g
 unfold bound;rw[e,(FC t o).2.2.1]
theorem jdG{t:aI}{o:Nat}(h:lu p t)(ho:o<t.ak.length)(hkd:(t.aC o).eH=1)(hot:∀o',o'<t.ak.length->o'≠o->¬((t.aC o').eH=1/\pq (t.aC o')=true)):aO p (close t o)=0:=by
 have hs:=h.sane;obtain⟨r1,r2,r3,r4,r5,r6⟩:=FC t o;have hord:=Lu t o ho;have hkind:∀o',((close t o).aC o').eH=if o'=o/\pq (t.aC o)=true then 2 else(t.aC o').eH:=λo'=>by
  rw[hord];split<;>rfl
 refine oV.2 ⟨lu.of (pz.of (by rw[r1];exact hs.shelf) (by rw[Ih];exact hs.nX) (by rw[r3];exact hs.uf) (λo' ho'=>?_) (λo' k' ho' hk'=>?_) (by rw[r2];exact hs.aA) (λx hx=>?_) (λx hx=>?_)
  (by rw[r4];exact(eG.1 hs.form).2.2.2.2.1) (by rw[r5];exact(eG.1 hs.form).2.2.2.2.2.1) (by rw[r6];exact(eG.1 hs.form).2.2.2.2.2.2)) (λg hg=>?_) (λb g hb hg=>?_) (λo' k' ho' hk'=>?_),λo' ho'=>?_⟩
 ·rw[Ih]at ho'
  rw[BK t o ho,hkind];refine⟨hs.rE ho',?_⟩
  have:=hs.eH ho';split<;>omega
 ·rw[Ih]at ho'
  rw[BK t o ho]at hk'
  rw[FD t o ho];exact rO.2 (hs.aK ho' hk')
 ·rw[r2]at hx
  have:=og.1 (bJ.1 (eG.1 hs.form).2.2.1 x hx);exact og.2 ⟨by rw[Ih];exact this.1,by rw[BK t o ho];exact this.2.1,this.2.2⟩
 ·rw[r3]at hx
  exact bJ.1 (eG.1 hs.form).2.2.2.1 x hx
 ·rw[r1,r4,r5,r6];exact h.sum hg
 ·rw[U9 t o ho,r1];exact h.bnd hb hg
 ·rw[Ih]at ho'
  rw[BK t o ho]at hk'
  have h1:=h.BU ho' hk';have h2:=hs.aK ho' hk';have h3:=(wH hs.aA o' k').1;refine uP.2 ?_
  rw[FD t o ho,r2,hkind];by_cases hq:o'=o/\pq (t.aC o)=true
  ·rw[aB hq];obtain⟨rfl,ha⟩:=hq;have h4:=yU.1 ha k' hk';change(t.aK o' k').qI=(t.aK o' k').jk at h4
   rw[au (by omega)]at h1
   rw[au (by omega)]
   omega
  ·rw[au hq];exact h1
 ·rw[Ih]at ho'
  rw[hkind];by_cases hq:o'=o/\pq (t.aC o)=true
  ·rw[aB hq];omega
  ·rw[au hq];have e:pq ((close t o).aC o')=pq (t.aC o'):=by
    unfold pq;rw[BK t o ho]
   rw[e];by_cases ho2:o'=o
   ·subst ho2;rintro⟨_,ha⟩;exact hq ⟨rfl,ha⟩
   ·exact hot o' ho' ho2
theorem Nq(hc:aO p s=0)(f:GY p s o k b n):aO p (BF p s o k b n)=0/\(BF p s o k b n).ak.length=s.ak.length/\(∀o',((BF p s o k b n).aC o').aH.length=(s.aC o').aH.length)/\
  (∀o' k':Nat,¬(o'=o/\k'=k)->kept (BF p s o k b n).aA o' k'=kept s.aA o' k'/\(BF p s o k b n).aK o' k'=s.aK o' k')/\((BF p s o k b n).aK o k).qI=(s.aK o k).qI+n/\
  (((BF p s o k b n).aC o).eH=2↔pq ((BF p s o k b n).aC o)=true):=by
 obtain⟨h,LP⟩:=oV.1 hc;obtain⟨ht,_,_⟩:=JW h f;have hot:o<(EI p s o k b n).ak.length:=by rw[ht.ak,oZ];exact f.ho
 have hkd:((EI p s o k b n).aC o).eH=1:=by rw[ht.eH,FP f];exact Np h f
 have xK:∀o' k',¬(o'=o/\k'=k)->(EI p s o k b n).aK o' k'=s.aK o' k':=λo' k' hn=>by
  have h1:=ht.aK o' k';have h2:=ht.eU o' k';rw[au hn,qx]at h2
  rw[DY f,au hn]at h1 h2
  obtain⟨a1,a2,a3⟩:=h1;cases hx:(EI p s o k b n).aK o' k';cases hy:s.aK o' k';rw[hx,hy]at a1 a2 a3 h2
  simp only at a1 a2 a3 h2
  rw[a1,a2,a3,h2]
 rw[JX];refine⟨jdG ht.right hot hkd (λo' ho' hne=>?_),by rw[Ih,ht.ak,oZ],λo'=>by rw[BK _ o hot,ht.aH,Eu f],λo' k' hn=>⟨?_,?_⟩,?_,?_⟩
 ·rw[ht.ak,oZ]at ho'
  rw[ht.eH,FP f,ht.pq];have e:pq ((qh s o k b (dD s.aA o k b) n).aC o')=pq (s.aC o'):=by
   have:(qh s o k b (dD s.aA o k b) n).aC o'=s.aC o':=by
    have:=Il (s:=preS s o k b n) f.ho k {s.aK o k with qI:=(s.aK o k).qI+n,eU:=(s.aK o k).eU+dD s.aA o k b - n} o'
    rw[au hne]at this
    exact this
   rw[this]
  rw[e];exact LP o' ho'
 ·rw[(FC _ o).2.1,ht.kept,au (by omega),UH h f,au (by omega)]
  omega
 ·rw[FD _ o hot,xK o' k' hn]
 ·rw[FD _ o hot,(ht.aK o k).2.2,DY f,aB ⟨rfl,rfl⟩]
 ·have e:pq ((close (EI p s o k b n) o).aC o)=pq ((EI p s o k b n).aC o):=by
   unfold pq;rw[BK _ o hot]
  rw[e,Lu _ o hot];by_cases ha:pq ((EI p s o k b n).aC o)=true
  ·rw[aB ⟨rfl,ha⟩];simp[ha]
  ·rw[au (λhh=>ha hh.2)]
   simp only[ha];constructor
   ·intro hh;omega
   ·intro hh;cases hh
theorem jcg(hc:aO p s=0)(f:GY p s o k b n):dD (BF p s o k b n).aA o k b=0/\((BF p s o k b n).aK o k).qI+((BF p s o k b n).aK o k).eU+kept (BF p s o k b n).aA o k=((BF p s o k b n).aK o k).jk/\
  ((BF p s o k b n).aK o k).dW=(s.aK o k).dW/\((s.aK o k).eU<((BF p s o k b n).aK o k).eU->∀b':Nat,b'<p.dP.length->b'≠b->lW (BF p s o k b n) b' (s.aK o k).dW=0):=by
 obtain⟨h,LP⟩:=oV.1 hc;obtain⟨ht,ht1,ht2⟩:=JW h f;have hot:o<(EI p s o k b n).ak.length:=by rw[ht.ak,oZ];exact f.ho
 have hcx:=(Nq hc f).1;have hx:=jm hcx;have lZ:=(Nq hc f).2.1;have Ja:=(Nq hc f).2.2.1;have hls:=(hx.BU (o:=o) (k:=k) (by rw[lZ];exact f.ho) (by rw[Ja];exact f.hk)).1
 have hkd:((BF p s o k b n).aC o).eH≠0:=by
  rw[JX,Lu _ o hot];split
  ·simp only;omega
  ·rw[ht.eH,FP f,Np h f];omega
 rw[au hkd]at hls
 refine⟨?_,hls,?_,λhlt b' hb' hne=>?_⟩
 ·rw[JX,(FC _ o).2.1];have:=QU (b:=b) (Gi h f) (JO p) (JV h f);change dD (EI p s o k b n).aA o k b=_ at this
  rw[this,YK h f,aB ⟨rfl,rfl,rfl⟩]
 ·rw[JX,FD _ o hot,(ht.aK o k).1,(Jt f _ o k).1]
 ·rw[JX,FD _ o hot,ht.eU,aB ⟨rfl,rfl⟩,DY f,aB ⟨rfl,rfl⟩]at hlt
  simp only at hlt
  have:=Wp (but:=b) (Gi h f) (JV h f) (by omega) hb' (by omega)
  change lW (EI p s o k b n) b' _=0 at this
  rw[(Jt f _ o k).1]at this
  rw[JX];unfold lW at this ⊢
  rw[U9 _ o hot,(FC _ o).1];exact this
theorem WR{o k b n:Int}(h:(pick p s o k b n).2=0):aO p s=0/\∃i j c:Nat,o=i/\k=j/\b=c/\GY p s i j c n/\(pick p s o k b n).1=BF p s i j c n:=by
 unfold pick at h ⊢
 by_cases h1:aO p s=0
 ·rw[au (λhn=>hn h1)]at h ⊢
  by_cases h2:dD s.aA o k b=0
  ·rw[aB h2]at h
   simp at h
  rw[au h2]at h ⊢
  cases h3:dM n 0 (dD s.aA o k b)
  ·rw[h3,aB (by rfl)]at h
   simp at h
  rw[h3,au (by simp)]at h
  rw[au (by simp)]
  have h3':=dZ.1 h3;by_cases h4:1048576<aZ s.O (s.aK o.toNat k.toNat).dW.toNat+n
  ·rw[aB h4]at h
   simp at h
  rw[au h4];have hs:=(jm h1).sane;obtain⟨hk1,hm⟩:=Ee (gI.1 hs.aA).1 (gI.1 hs.aA).2 h2;have hin:=og.1 (bJ.1 (eG.1 hs.form).2.2.1 _ hm);simp only at hin
  have wU:=Mc hs.aA o k b;unfold sJ at hk1
  obtain⟨i,rfl⟩:∃i:Nat,o=i:=⟨o.toNat,by omega⟩
  obtain⟨j,rfl⟩:∃j:Nat,k=j:=⟨k.toNat,by omega⟩
  obtain⟨c,rfl⟩:∃c:Nat,b=c:=⟨b.toNat,by omega⟩
  simp only[dn]at hin h4 ⊢
  exact⟨h1,i,j,c,rfl,rfl,rfl,⟨by omega,by omega,by omega,by omega,by omega,by omega,by omega⟩,rfl⟩
 ·rw[aB h1]at h
  exact absurd h h1
end
section
variable {p:dG} {s:aI} {o k b n:Int}
theorem jcf(h:aO p s≠0):pick p s o k b n=(kF,aO p s):=by unfold pick;rw[aB h]
theorem Zv(h:aO p s=0)(h2:dD s.aA o k b=0):pick p s o k b n=(kF,4):=by unfold pick;rw[au (λhn=>hn h),aB h2]
theorem QX(h:aO p s=0)(h2:dD s.aA o k b≠0)(h3:n<0\/dD s.aA o k b<n):pick p s o k b n=(kF,3):=by
 unfold pick;rw[au (λhn=>hn h),au h2,mY.2 h3]
 rfl
theorem jfV(h:aO p s=0)(h2:dD s.aA o k b≠0)(h3:0<=n/\n<=dD s.aA o k b):
  ∃i j c:Nat,o=i/\k=j/\b=c/\i<s.ak.length/\j<(s.aC i).aH.length/\c<p.dP.length/\1<=dD s.aA i j c/\dD s.aA i j c<=200/\
   pick p s o k b n=if 1048576<aZ s.O (s.aK i j).dW.toNat+n then(kF,2)else(BF p s i j c n,0):=by
 have hs:=(jm h).sane;obtain⟨hk1,hm⟩:=Ee (gI.1 hs.aA).1 (gI.1 hs.aA).2 h2;have hin:=og.1 (bJ.1 (eG.1 hs.form).2.2.1 _ hm);simp only at hin
 have hr:=Gn (gI.1 hs.aA).1 (gI.1 hs.aA).2 o k b;unfold sJ at hk1
 obtain⟨i,rfl⟩:∃i:Nat,o=i:=⟨o.toNat,by omega⟩
 obtain⟨j,rfl⟩:∃j:Nat,k=j:=⟨k.toNat,by omega⟩
 obtain⟨c,rfl⟩:∃c:Nat,b=c:=⟨b.toNat,by omega⟩
 simp only[dn]at hin
 refine⟨i,j,c,rfl,rfl,rfl,by omega,by omega,by omega,by omega,hr.2,?_⟩
 unfold pick;rw[au (λhn=>hn h),au h2,dZ.2 h3,au (by simp)]
 simp only[dn]
end
def Ju(b g:Int):iw Move:=⟨λx=>decide (x.src=b)&&decide (x.dW=g),(·.n),λx n=>{x with n:=n},λ_ _=>rfl,λ_ _=>rfl,λ_ _ _=>rfl,λ_=>rfl⟩
def yM(s:aI)(b g:Int):iw eX:=⟨λx=>decide (x.bin=b)&&decide ((s.aK x.aC.toNat x.aK.toNat).dW=g),(·.n),λx n=>{x with n:=n},λ_ _=>rfl,λ_ _=>rfl,λ_ _ _=>rfl,λ_=>rfl⟩
theorem SH{b g:Int}{x:Move}:(Ju b g).is x=true↔x.src=b/\x.dW=g:=by simp[Ju]
theorem FX{s:aI}{b g:Int}{x:eX}:(yM s b g).is x=true↔x.bin=b/\(s.aK x.aC.toNat x.aK.toNat).dW=g:=by simp[yM]
theorem jlA(b g:Int)(x:Move):(Ju b g).part x=BI b g x:=by
 unfold iw.part BI;by_cases h:x.src=b/\x.dW=g
 ·rw[aB h,aB (SH.2 h)];rfl
 ·rw[au h,au (λhh=>h (SH.1 hh))]
theorem jl4(s:aI)(b g:Int)(x:eX):(yM s b g).part x=xM s b g x:=by
 unfold iw.part xM;by_cases h:x.bin=b/\(s.aK x.aC.toNat x.aK.toNat).dW=g
 ·rw[aB h,aB (FX.2 h)];rfl
 ·rw[au h,au (λhh=>h (FX.1 hh))]
theorem Ht(b g:Int)(l:List Move):(Ju b g).all l=mF l b g:=by
 unfold iw.all mF;congr 1
 exact lM λx _=>jlA b g x
theorem je4(s:aI)(b g:Int)(l:List eX):(yM s b g).all l=(l.map (xM s b g)).sum:=by
 unfold iw.all;congr 1
 exact lM λx _=>jl4 s b g x
namespace iw
variable {α β:Type} {C:iw α}
theorem jgr(f:α->β)(hf:∀x n,f (C.put x n)=f x)(l:List α)(v:Int):(C.cut l v).1.map f=l.map f:=by
 induction l with
 |nil=>rfl
 |cons x r ih=>
  cases hx:C.is x
  ·rw[EH hx,dJ,ih,dJ]
  ·rw[ER hx,dJ,ih,dJ,hf]
theorem jmq(F:α->Int)(hF:∀x n,C.is x=true->F (C.put x n)=F x)(l:List α)(v:Int):((C.cut l v).1.map F).sum=(l.map F).sum:=by
 induction l with
 |nil=>rfl
 |cons x r ih=>
  cases hx:C.is x
  ·rw[EH hx,dJ,iL,ih,dJ,iL]
  ·rw[ER hx,dJ,iL,ih,dJ,iL,hF x _ hx]
theorem jbX(F:α->Int)(hF:∀x n,C.is x=true->F (C.put x n)=F x)(h0:∀x,C.num x=0->F x=0)(l:List α)(v:Int):((C.rest l v).map F).sum=(l.map F).sum:=by
 rw[<- jmq F hF l v];unfold rest;generalize (C.cut l v).1=m;induction m with
 |nil=>rfl
 |cons x r ih=>
  rw[kS];split
  ·rw[dJ,iL,ih,dJ,iL]
  ·rename_i hk
   have:C.num x=0:=by unfold keep at hk;simpa using hk
   rw[ih,dJ,iL,h0 x this];omega
theorem jea{l:List α}(h:C.Pos l)(v:Int){x:α}(hx:x∈l)(hi:C.is x=false):x∈C.rest l v:=by
 have hn:=h x hx;refine jX.2 ⟨?_,by unfold keep;simp;omega⟩
 clear hn;induction l with
 |nil=>simp at hx
 |cons y r ih=>
  rcases fF.1 hx with rfl|hx
  ·rw[EH hi];exact bW ..
  ·have:=ih h.cons.2 hx;cases hy:C.is y
   ·rw[EH hy];exact aY _ this
   ·rw[ER hy];exact aY _ this
end iw
def zl(s:aI)(b g v:Int):List Move:=(Ju b g).rest s.aF v
def pW(s:aI)(b g v:Int):List eX:=(yM s b g).rest s.aA (v - mF s.aF b g)
def rF(s:aI)(b g v:Int)(o k:Int):Int:=dD s.aA o k b - dD (pW s b g v) o k b
def Ba(s:aI)(b g v:Int):List Order:=s.ak.mapIdx λo x=>{x with aH:=x.aH.mapIdx λk y=>{y with eU:=y.eU+rF s b g v o k}}
def xk(s:aI)(b g:Nat)(jy v:Int):aI:=
 {on:=setCell s.on b g jy,ak:=Ba s b g v,aA:=pW s b g v,aF:=zl s b g v,jf:=s.jf,O:=s.O,dB:=s.dB.set g (aZ s.dB g+jy - cell s.on b g)}
section
variable {p:dG} {s:aI} {b g:Nat} {jy v:Int}
theorem LK(hs:pz p s)(b g:Int):(Ju b g).Pos s.aF:=λx hx=>by
 obtain⟨i,hi,rfl⟩:=bg hx;have:=hs.bZ hi;rw[pJ hi]at this
 exact this.2.2.2.2.1
theorem Jc(hs:pz p s)(b g:Int):(yM s b g).Pos s.aA:=λx hx=>by
 have:=(nH.1 ((gI.1 hs.aA).1 x hx)).2.1;exact this
theorem Kz(hs:pz p s)(b g v:Int):iI (pW s b g v)=true:=by
 obtain⟨h1,h2⟩:=gI.1 hs.aA;refine gI.2 ⟨λy hy=>?_,?_⟩
 ·obtain⟨x,hx,e,a,a',_⟩:=iw.JU (Jc hs b g) _ y hy;obtain⟨c1,c2,c3⟩:=nH.1 (h1 x hx);change 1<=y.n at a
  change y.n<=x.n at a'
  rw[e];exact nH.2 ⟨c1,a,by show y.n<=200;omega⟩
 ·unfold pW iw.rest KW;refine tZ _ ?_
  have e:=iw.jgr (C:=yM s b g) fP (λ_ _=>rfl) s.aA (v - mF s.aF b g)
  have h3:(s.aA.map fP).Pairwise (·<·):=nZ.2 h2
  rw[<- e]at h3
  exact nZ.1 h3
theorem NP(hs:pz p s)(b g v:Int)(o k b':Int):dD (pW s b g v) o k b'<=dD s.aA o k b'/\(¬(b'=b/\(s.aK o.toNat k.toNat).dW=g)->dD (pW s b g v) o k b'=dD s.aA o k b'):=by
 obtain⟨h1,h2⟩:=gI.1 hs.aA;obtain⟨h3,h4⟩:=gI.1 (Kz hs b g v);have n1:=Mc hs.aA o k b';have n2:=Mc (Kz hs b g v) o k b';have up:dD (pW s b g v) o k b'≠0->∃x∈s.aA,x.aC=o/\x.aK=k/\x.bin=b'/\dD (pW s b g v) o k b'<=x.n/\(¬(b'=b/\(s.aK o.toNat k.toNat).dW=g)->dD (pW s b g v) o k b'=x.n):=λhn=>by
  obtain⟨_,hm⟩:=Ee h3 h4 hn;obtain⟨x,hx,e,a,a',hnot⟩:=iw.JU (Jc hs b g) _ _ hm;have e':(⟨o,k,b',dD (pW s b g v) o k b'⟩:eX)={x with n:=dD (pW s b g v) o k b'}:=e
  simp only[eX.mk.injEq]at e'
  refine⟨x,hx,e'.1.symm,e'.2.1.symm,e'.2.2.1.symm,a',λhq=>?_⟩
  have hi:(yM s b g).is x=false:=by
   cases hi:(yM s b g).is x
   ·rfl
   ·have:=FX.1 hi;rw[<- e'.1,<- e'.2.1,<- e'.2.2.1]at this
    exact absurd this hq
  have:=hnot hi;rw[<- this]
 constructor
 ·by_cases hn:dD (pW s b g v) o k b'=0
  ·omega
  ·obtain⟨x,hx,e1,e2,e3,hle,_⟩:=up hn;have:=Ed h1 h2 hx;rw[e1,e2,e3]at this
   omega
 ·intro hq;by_cases hn:dD (pW s b g v) o k b'=0
  ·by_cases hm:dD s.aA o k b'=0
   ·omega
   ·obtain⟨_,hmem⟩:=Ee h1 h2 hm;have hi:(yM s b g).is ⟨o,k,b',dD s.aA o k b'⟩=false:=by
     cases hi:(yM s b g).is ⟨o,k,b',dD s.aA o k b'⟩
     ·rfl
     ·exact absurd (FX.1 hi) hq
    have:=iw.jea (Jc hs b g) (v - mF s.aF b g) hmem hi;have:=Ed h3 h4 this;simp only at this
    omega
  ·obtain⟨x,hx,e1,e2,e3,_,he⟩:=up hn;have:=Ed h1 h2 hx;rw[e1,e2,e3]at this
   rw[he hq,this]
theorem Eo(hs:pz p s)(b:Nat)(g v:Int)(o k:Int):0<=rF s b g v o k/\rF s b g v o k<=dD s.aA o k b/\rF s b g v o k<=kept s.aA o k:=by
 have h1:=(NP hs b g v o k b).1;have h2:=Mc (Kz hs b g v) o k b;have h3:=Le hs.aA o k b;unfold rF;omega
theorem jfu(hs:pz p s){b:Nat}(hb:b<p.dP.length)(g v:Int)(o k:Int):kept (pW s b g v) o k=kept s.aA o k - rF s b g v o k:=by
 rw[Hy hs.aA,Hy (Kz hs b g v)];have:=FK (f:=λb=>dD s.aA o k b) (g:=λb'=>dD (pW s b g v) o k b') (n:=6) (i:=b) (d:=- rF s b g v o k) (by have:=hs.counts;omega) (λi _ hne=>(NP hs b g v o k i).2 (λh=>hne (by omega))) (by
  show dD (pW s b g v) o k b=dD s.aA o k b+ -rF s b g v o k;unfold rF;omega)
 rw[this];omega
theorem Qi(o:Nat)(ho:o<s.ak.length):(xk s b g jy v).aC o={s.aC o with aH:=(s.aC o).aH.mapIdx λk y=>{y with eU:=y.eU+rF s b g v o k}}:=by
 unfold aI.aC bK xk Ba;simp[List.getD,ho]
theorem uS:(xk s b g jy v).ak.length=s.ak.length:=by simp[xk,Ba]
theorem rX(o:Nat)(ho:o<s.ak.length):((xk s b g jy v).aC o).aH.length=(s.aC o).aH.length:=by rw[Qi o ho];simp
theorem ML(o:Nat)(ho:o<s.ak.length):((xk s b g jy v).aC o).eH=(s.aC o).eH:=by rw[Qi o ho]
theorem Fa{o k:Nat}(ho:o<s.ak.length)(hk:k<(s.aC o).aH.length):(xk s b g jy v).aK o k={s.aK o k with eU:=(s.aK o k).eU+rF s b g v o k}:=by
 unfold aI.aK;rw[Qi o ho,qw (by simpa using hk),qw hk]
 simp
theorem X8(hs:pz p s)(b' g':Int):pO (xk s b g jy v) b' g'=((pW s b g v).map (xM s b' g')).sum:=by
 unfold pO;congr 1
 apply lM;intro x hx;obtain⟨y,hy,e,_,_,_⟩:=iw.JU (Jc hs b g) _ x hx;have e':x={y with n:=x.n}:=e
 obtain⟨i,hi,rfl⟩:=bg hy;have h2:=hs.yL hi;rw[iZ hi]at h2
 unfold xM;rw[e'];simp only;rw[Fa (by omega) (by omega)]
theorem Po(hs:pz p s)(hv:0<=v)(hv2:v<=bound s b g):bound (xk s b g jy v) b g=bound s b g - v:=by
 have h1:mF (xk s b g jy v).aF b g=_:=(Ht b g _).symm.trans (iw.Iz (LK hs b g) v);rw[Ht]at h1
 have h2:=X8 (b:=b) (g:=g) (jy:=jy) (v:=v) hs b g;have h3:=iw.Iz (Jc hs b g) (v - mF s.aF b g);rw[je4,je4]at h3
 change((pW s b g v).map (xM s b g)).sum=pO s b g - min (max (v - mF s.aF b g) 0) (pO s b g)at h3
 rw[h3]at h2
 have h4:=yP hs b g;have h5:=ED hs b g s.aA.length;rw[H8]at h5
 unfold bound at hv2 ⊢
 rw[h1,h2];omega
theorem Vt(hs:pz p s){b' g':Int}(hne:¬(b'=b/\g'=g)):bound (xk s b g jy v) b' g'=bound s b' g':=by
 have h1:mF (xk s b g jy v).aF b' g'=mF s.aF b' g':=iw.jbX (C:=Ju b g) (BI b' g') (λx n hx=>by
  have:=SH.1 hx;unfold BI;rw[au (by show ¬(x.src=b'/\x.dW=g');omega),au (by omega)]) (λx hx=>by
  have hx':x.n=0:=hx;unfold BI;rw[hx'];split<;>rfl) s.aF v
 have h2:=X8 (b:=b) (g:=g) (jy:=jy) (v:=v) hs b' g';have h3:((pW s b g v).map (xM s b' g')).sum=pO s b' g':=iw.jbX (C:=yM s b g) (xM s b' g') (λx n hx=>by
  have:=FX.1 hx;unfold xM;rw[au (by show ¬(x.bin=b'/\(s.aK x.aC.toNat x.aK.toNat).dW=g');omega),au (by omega)]) (λx hx=>by
  have hx':x.n=0:=hx;unfold xM;rw[hx'];split<;>rfl) s.aA _
 unfold bound;rw[h1,h2,h3]
structure Bh(p:dG)(s:aI)(b g:Nat)(jy:Int):Prop where
 hb:b<p.dP.length
 hg:g<p.aW.length
 s0:0<=jy
 s1:jy<=200
 f0: -1048576<=aZ s.dB g+jy - cell s.on b g
 f1:aZ s.dB g+jy - cell s.on b g<=1048576
def over(s:aI)(b g:Nat)(jy:Int):Int:=max (bound s b g - jy) 0
theorem MN(hc:aO p s=0)(f:Bh p s b g jy):aO p (xk s b g jy (over s b g jy))=0:=by
 obtain⟨h,LP⟩:=oV.1 hc;have hs:=h.sane;have hb0:=F6 hs b g;have hs0:=f.s0;have hov:0<=over s b g jy/\over s b g jy<=bound s b g/\bound s b g - over s b g jy<=jy:=by unfold over;omega
 generalize over s b g jy=v at hov
 have hbl:b<s.on.length:=by rw[hs.sO];exact f.hb
 have hgl:g<(fO s.on b).length:=by rw[hs.rowLen f.hb];exact f.hg
 have hfl:g<s.dB.length:=by rw[hs.dB.1];exact f.hg
 refine oV.2 ⟨lu.of (pz.of ?_ (by rw[uS];exact hs.nX) ?_ (λo ho=>?_) (λo k ho hk=>?_) (Kz hs b g v) (λx hx=>?_) (λx hx=>?_)
  (eG.1 hs.form).2.2.2.2.1 (eG.1 hs.form).2.2.2.2.2.1 (Na (eG.1 hs.form).2.2.2.2.2.2 hfl f.f0 f.f1)) (λg' hg'=>?_) (λb' g' hb' hg'=>?_) (λo k ho hk=>?_),λo ho=>?_⟩
 ·exact jR.2 ⟨hs.plan,Nc (jR.1 hs.shelf).2 ⟨f.s0,f.s1⟩ f.hb f.hg⟩
 ·refine aU (aU (kR _ _) ?_) hs.uf
  rw[iw.RQ];exact ay _
 ·rw[uS]at ho
  rw[rX o ho,ML o ho];exact⟨hs.rE ho,hs.eH ho⟩
 ·rw[uS]at ho
  rw[rX o ho]at hk
  have hl:=hs.aK ho hk;have h1:=(h.BU ho hk).1;have h2:=Eo hs b g v o k;have h3:=(wH hs.aA o k).1;rw[Fa ho hk,rO];simp only;refine⟨hl.1,hl.2.1,hl.2.2.1,?_⟩
  split at h1<;>omega
 ·obtain⟨y,hy,e,_,_,_⟩:=iw.JU (Jc hs b g) _ x hx;have e':x={y with n:=x.n}:=e
  have h1:=og.1 (bJ.1 (eG.1 hs.form).2.2.1 y hy);obtain⟨i,hi,rfl⟩:=bg hy;have h2:=hs.yL hi;rw[iZ hi]at h2
  rw[e'];exact og.2 ⟨by rw[uS];exact h1.1,by rw[rX _ (by show(s.aA[i]).aC.toNat<_;omega)];exact h1.2.1,h1.2.2⟩
 ·obtain⟨y,hy,e,a,a',_⟩:=iw.JU (LK hs b g) _ x hx;have e':x={y with n:=x.n}:=e
  have h1:=Hu.1 (bJ.1 (eG.1 hs.form).2.2.2.1 y hy);change 1<=x.n at a
  change x.n<=y.n at a'
  rw[e'];exact Hu.2 ⟨h1.1,h1.2.1,h1.2.2.1,h1.2.2.2.1,a,by show x.n<=200;omega⟩
 ·have h1:=h.sum hg';have e1:Du (xk s b g jy v).on g'=_:=EX (n:=jy) hbl hgl g';have e2:aZ (xk s b g jy v).dB g'=if g'=g then aZ s.dB g+jy - cell s.on b g else aZ s.dB g':=JE hfl
  rw[e1,e2];show _=aZ s.jf g' - aZ s.O g'+_;split
  ·rename_i hq
   subst hq;omega
  ·omega
 ·have h1:=h.bnd hb' hg';have e1:cell (xk s b g jy v).on b' g'=if b'=b/\g'=g then jy else cell s.on b' g':=pU hbl hgl
  rw[e1];by_cases hq:b'=b/\g'=g
  ·obtain⟨rfl,rfl⟩:=hq;rw[aB ⟨rfl,rfl⟩,Po hs hov.1 hov.2.1];exact hov.2.2
  ·rw[au hq,Vt hs (by omega)]
   exact h1
 ·rw[uS]at ho
  rw[rX o ho]at hk
  obtain⟨l1,l2⟩:=h.BU ho hk;have h2:=Eo hs b g v o k;have h3:=(wH hs.aA o k).1;have hl:=hs.aK ho hk;refine uP.2 ?_
  have e1:kept (xk s b g jy v).aA o k=kept s.aA o k - rF s b g v o k:=jfu hs f.hb g v o k;rw[Fa ho hk,ML o ho,e1];simp only;refine⟨?_,λhh=>l2 ⟨hh.1,by omega⟩⟩
  split at l1<;>rename_i hz
  ·rw[aB hz];omega
  ·rw[au hz];omega
 ·rw[uS]at ho
  rw[ML o ho];rintro⟨h1,h2⟩;refine LP o ho ⟨h1,yU.2 λk hk=>?_⟩
  have h3:=yU.1 h2 k (by rw[rX o ho];exact hk)
  have h4:=Fa (b:=b) (g:=g) (jy:=jy) (v:=v) ho hk;unfold aI.aK at h4
  rw[h4]at h3
  exact h3
end
structure KI(p:dG)(b:Nat)(S:Nat->Nat->Prop)(s t:aI):Prop where
 right:lu p t
 on:t.on=s.on
 aF:t.aF=s.aF
 jf:t.jf=s.jf
 O:t.O=s.O
 dB:t.dB=s.dB
 ak:t.ak.length=s.ak.length
 eH:∀o,(t.aC o).eH=(s.aC o).eH
 aH:∀o,(t.aC o).aH.length=(s.aC o).aH.length
 aK:∀o k,(t.aK o k).dW=(s.aK o k).dW/\(t.aK o k).jk=(s.aK o k).jk/\(t.aK o k).qI=(s.aK o k).qI
 bnd:∀g:Int,bound t b g=bound s b g
 eU:∀o k,¬S o k->(t.aK o k).eU=(s.aK o k).eU
namespace KI
variable {p:dG} {b:Nat} {S S':Nat→Nat→Prop} {s t u:aI}
theorem refl(h:lu p s):KI p b S s s:=⟨h,rfl,rfl,rfl,rfl,rfl,rfl,λ_=>rfl,λ_=>rfl,λ_ _=>⟨rfl,rfl,rfl⟩,λ_=>rfl,λ_ _ _=>rfl⟩
theorem mono(h:KI p b S s t)(hS:∀o k,S o k->S' o k):KI p b S' s t:={h with eU:=λo k hn=>h.eU o k λhs=>hn (hS o k hs)}
theorem trans(h:KI p b S s t)(h':KI p b S' t u):KI p b (λo k=>S o k\/S' o k) s u:=by
 refine⟨h'.right,h'.on.trans h.on,h'.aF.trans h.aF,h'.jf.trans h.jf,h'.O.trans h.O,h'.dB.trans h.dB,h'.ak.trans h.ak,λo=>(h'.eH o).trans (h.eH o),λo=>(h'.aH o).trans (h.aH o),λo k=>?_,λg=>(h'.bnd g).trans (h.bnd g),λo k hn=>?_⟩
 ·obtain⟨a1,a2,a3⟩:=h.aK o k;obtain⟨b1,b2,b3⟩:=h'.aK o k;exact⟨b1.trans a1,b2.trans a2,b3.trans a3⟩
 ·exact(h'.eU o k λhs=>hn (.inr hs)).trans (h.eU o k λhs=>hn (.inl hs))
theorem one{o k:Nat}{n:Int}(h:lu p s)(hm:n=0\/May s o k n):KI p b (λo' k'=>o'=o/\k'=k) s (qM p s o k n b).1:=by
 rcases hm with rfl|hm
 ·have:qM p s o k 0 b=(s,0):=KQ (by omega)
  rw[this];exact refl h
 ·obtain⟨h1,_,_⟩:=QT (but:=b) h hm;exact⟨h1.right,h1.on,h1.aF,h1.jf,h1.O,h1.dB,h1.ak,h1.eH,h1.aH,h1.aK,λg=>jgB h hm g,λo' k' hn=>by rw[h1.eU,au hn,qx]⟩
theorem may(h:KI p b S s t){o k:Nat}{n:Int}(hn:¬S o k)(hm:n=0\/May s o k n):n=0\/May t o k n:=by
 rcases hm with hm|hm
 ·exact .inl hm
 ·exact .inr ⟨by rw[h.ak];exact hm.ho,by rw[h.aH];exact hm.hk,by rw[h.eH];exact hm.eH,hm.n0,by rw[h.eU o k hn];exact hm.eU⟩
theorem check(h:KI p b S s t)(hs:aO p s=0):aO p t=0:=by
 refine oV.2 ⟨h.right,λo ho=>?_⟩
 rw[h.ak]at ho
 have:=(oV.1 hs).2 o ho;rw[h.eH];rintro⟨h1,h2⟩;refine this ⟨h1,yU.2 λk hk=>?_⟩
 have h3:=yU.1 h2 k (by rw[h.aH];exact hk)
 have h4:=h.aK o k;unfold aI.aK at h4
 rw[h4.2.1,h4.2.2]at h3
 exact h3
end KI
def zD(p:dG)(o:Nat)(b:Int)(n:Nat->Int):Nat->aI->aI
 |0,s=>s
 |k+1,s=>(qM p (zD p o b n k s) o k (n k) b).1
def BZ(p:dG)(b:Int)(n:Nat->Nat->Int):Nat->aI->aI
 |0,s=>s
 |o+1,s=>zD p o b (n o) ((BZ p b n o s).aC o).aH.length (BZ p b n o s)
def Jg(p:dG)(s:aI)(b g:Nat)(jy:Int):aI:=
 BZ p b (λo k=>rF s b g (over s b g jy) o k) s.ak.length (xk s b g jy (over s b g jy))
def count(p:dG)(s:aI)(b g jy:Int):aI×Int:=
 if aO p s≠0 then(kF,aO p s)
 else if !(lK p b&&iO p g&&dM jy 0 200)then(kF,3)
 else if !(dM (aZ s.dB g.toNat+jy - cell s.on b.toNat g.toNat) (-1048576) 1048576)then(kF,2)
 else(Jg p s b.toNat g.toNat jy,0)
section
variable {p:dG} {s:aI} {b g:Nat} {jy v:Int} {n:Nat→Nat→Int}
theorem Ky{o:Nat}{n:Nat->Int}(h:lu p s)(hn:∀k,k<(s.aC o).aH.length->n k=0\/May s o k (n k)):∀m,m<=(s.aC o).aH.length->KI p b (λo' k'=>o'=o/\k'<m) s (zD p o b n m s)
 |0,_=>KI.refl h
 |m+1,hm=>by
  have h1:=Ky h hn m (by omega)
  have h2:=KI.one (b:=b) h1.right (h1.may (by omega) (hn m (by omega)))
  exact(h1.trans h2).mono λo' k' hs=>by omega
theorem Fj(h:lu p s)(hn:∀o k,o<s.ak.length->k<(s.aC o).aH.length->n o k=0\/May s o k (n o k)):∀m,m<=s.ak.length->KI p b (λo' _=>o'<m) s (BZ p b n m s)
 |0,_=>KI.refl h
 |m+1,hm=>by
  have h1:=Fj h hn m (by omega)
  have h2:=Ky (b:=b) (o:=m) (n:=n m) h1.right (λk hk=>h1.may (by omega) (hn m k (by omega) (by rw[<- h1.aH];exact hk))) _ (ay _)
  exact(h1.trans h2).mono λo' k' hs=>by omega
theorem Qh(h:lu p s){o k:Nat}(ho:o<s.ak.length)(hk:k<(s.aC o).aH.length):rF s b g v o k=0\/May (xk s b g jy v) o k (rF s b g v o k):=by
 have h1:=Eo h.sane b g v o k;by_cases hz:rF s b g v o k=0
 ·exact .inl hz
 ·have h2:=h.BU ho hk;have h3:=h.sane.aK ho hk;have h4:=h.sane.eH ho;have h5:(s.aC o).eH≠0:=λe=>by rw[aB e]at h2;omega
  have h6:(s.aC o).eH≠2:=λe=>h2.2 ⟨e,by omega⟩
  refine .inr ⟨by rw[uS];exact ho,by rw[rX o ho];exact hk,by rw[ML o ho];omega,h1.1,?_⟩
  rw[Fa ho hk];simp only;omega
theorem NR(hc:aO p s=0)(f:Bh p s b g jy):KI p b (λo _=>o<s.ak.length) (xk s b g jy (over s b g jy)) (Jg p s b g jy):=by
 have h:=jm hc;have hcut:=jm (MN hc f);exact Fj hcut (λo k ho hk=>by
  rw[uS]at ho
  rw[rX o ho]at hk
  exact Qh h ho hk) _ (by rw[uS];exact ay _)
theorem jdF(hc:aO p s=0)(f:Bh p s b g jy):aO p (Jg p s b g jy)=0:=(NR hc f).check (MN hc f)
theorem jhz(hc:aO p s=0)(f:Bh p s b g jy):(Jg p s b g jy).ak.length=s.ak.length:=by rw[(NR hc f).ak,uS]
theorem jdD(hc:aO p s=0)(f:Bh p s b g jy){o:Nat}(ho:o<s.ak.length):((Jg p s b g jy).aC o).aH.length=(s.aC o).aH.length:=by rw[(NR hc f).aH,rX o ho]
theorem Yb(hs:pz p s):pW s b g 0=s.aA:=iw.rest_none (Jc hs b g) (by have:=yP hs b g;omega)
theorem jft(hs:pz p s):zl s b g 0=s.aF:=iw.rest_none (LK hs b g) (by omega)
theorem Z7(hs:pz p s)(o k:Int):rF s b g 0 o k=0:=by
 unfold rF;rw[Yb hs];omega
theorem X9(hs:pz p s):Ba s b g 0=s.ak:=by
 unfold Ba;apply qL
 ·simp
 ·intro i h1 h2;rw[lN];have:((s.ak[i].aH.mapIdx λk y=>{y with eU:=y.eU+rF s b g 0 i k}):List Line)=s.ak[i].aH:=by
   apply qL
   ·simp
   ·intro j h3 h4;rw[lN,Z7 hs,je]
  rw[this]
theorem U7{b g:Int}(h:(count p s b g jy).2=0):aO p s=0/\∃i j:Nat,b=i/\g=j/\Bh p s i j jy/\(count p s b g jy).1=Jg p s i j jy:=by
 unfold count at h ⊢
 by_cases h1:aO p s=0
 ·rw[au (λhn=>hn h1)]at h ⊢
  by_cases h2:(lK p b&&iO p g&&dM jy 0 200)=true
  ·rw[au (by rw[h2];simp)]at h ⊢
   by_cases h3:dM (aZ s.dB g.toNat+jy - cell s.on b.toNat g.toNat) (-1048576) 1048576=true
   ·rw[au (by rw[h3];simp)]
    simp only[dF]at h2
    obtain⟨i,rfl,hi⟩:=jbs h2.1.1;obtain⟨j,rfl,hj⟩:=XO h2.1.2;have h4:=dZ.1 h2.2;have h5:=dZ.1 h3;simp only[dn]at h5 ⊢
    exact⟨h1,i,j,rfl,rfl,⟨hi,hj,h4.1,h4.2,h5.1,h5.2⟩,rfl⟩
   ·rw[aB (by simpa using h3)]at h
    simp at h
  ·rw[nI]at h2
   rw[h2,aB (by rfl)]at h
   simp at h
 ·rw[aB h1]at h
  exact absurd h h1
end
section
variable {p:dG} {s:aI} {b g n:Int}
theorem jaa(h:aO p s≠0):count p s b g n=(kF,aO p s):=by unfold count;rw[aB h]
theorem FZ(h:aO p s=0)(h2:(lK p b&&iO p g&&dM n 0 200)=false):count p s b g n=(kF,3):=by
 unfold count;rw[au (λhn=>hn h),h2]
 rfl
theorem RU{i j:Nat}(h:aO p s=0)(hi:i<p.dP.length)(hj:j<p.aW.length)(hn:0<=n/\n<=200)(h2:aZ s.dB j+n - cell s.on i j< -1048576\/1048576<aZ s.dB j+n - cell s.on i j):count p s i j n=(kF,2):=by
 have h3:(lK p (i:Int)&&iO p (j:Int)&&dM n 0 200)=true:=by rw[zA.2 (by omega),wI.2 (by omega),dZ.2 hn];rfl
 unfold count;rw[au (λhn=>hn h),h3,au (by simp)]
 simp only[dn];rw[mY.2 h2];rfl
theorem jdC{i j:Nat}(h:aO p s=0)(f:Bh p s i j n):count p s i j n=(Jg p s i j n,0):=by
 have h1:=f.hb;have h2:=f.hg;have h3:(lK p (i:Int)&&iO p (j:Int)&&dM n 0 200)=true:=by rw[zA.2 (by omega),wI.2 (by omega),dZ.2 ⟨f.s0,f.s1⟩];rfl
 unfold count;rw[au (λhn=>hn h),h3,au (by simp)]
 simp only[dn];rw[dZ.2 ⟨f.f0,f.f1⟩];rfl
end
structure IW(p:dG)(S:Nat->Nat->Prop)(s t:aI):Prop where
 right:lu p t
 on:t.on=s.on
 aF:t.aF=s.aF
 jf:t.jf=s.jf
 O:t.O=s.O
 dB:t.dB=s.dB
 ak:t.ak.length=s.ak.length
 eH:∀o,(t.aC o).eH=(s.aC o).eH
 aH:∀o,(t.aC o).aH.length=(s.aC o).aH.length
 aK:∀o k,(t.aK o k).dW=(s.aK o k).dW/\(t.aK o k).jk=(s.aK o k).jk/\(t.aK o k).qI=(s.aK o k).qI
 less:∀b g:Int,lW t b g<=lW s b g
 eU:∀o k,¬S o k->(t.aK o k).eU=(s.aK o k).eU
 kept:∀o k:Nat,¬S o k->Wh.kept t.aA o k=Wh.kept s.aA o k
 done:∀o k,S o k->o<s.ak.length->k<(s.aC o).aH.length->(s.aC o).eH=1->0<(t.aK o k).eU->∀b,b<p.dP.length->lW t b (s.aK o k).dW=0
 none:∀o k,S o k->o<s.ak.length->k<(s.aC o).aH.length->(∀b:Nat,b<p.dP.length->lW s b (s.aK o k).dW=0)->Wh.kept t.aA o k=Wh.kept s.aA o k
theorem Xl{p:dG}{s:aI}(h:lu p s){o k b:Nat}(ho:o<s.ak.length)(hk:k<(s.aC o).aH.length)(hb:b<p.dP.length):0<=lW s b (s.aK o k).dW:=by
 have h1:=(h.sane.aK ho hk).1;obtain⟨g,hg⟩:∃g:Nat,(s.aK o k).dW=g:=⟨(s.aK o k).dW.toNat,by omega⟩
 rw[hg]at h1 ⊢
 exact(h.PN hb (by omega)).1
namespace IW
variable {p:dG} {S S':Nat→Nat→Prop} {s t u:aI}
theorem same(h:lu p s)(hS:∀o k,S o k->o<s.ak.length->k<(s.aC o).aH.length->(s.aC o).eH≠1):IW p S s s:=
 ⟨h,rfl,rfl,rfl,rfl,rfl,rfl,λ_=>rfl,λ_=>rfl,λ_ _=>⟨rfl,rfl,rfl⟩,λ_ _=>iT _,λ_ _ _=>rfl,λ_ _ _=>rfl,λo k hs ho hk hkd=>absurd hkd (hS o k hs ho hk),λ_ _ _ _ _ _=>rfl⟩
theorem mono(h:IW p S s t)(h1:∀o k,S o k->S' o k)(h2:∀o k,o<s.ak.length->k<(s.aC o).aH.length->S' o k->S o k):IW p S' s t:=
 {h with eU:=λo k hn=>h.eU o k λhs=>hn (h1 o k hs),kept:=λo k hn=>h.kept o k λhs=>hn (h1 o k hs),done:=λo k hs ho hk=>h.done o k (h2 o k ho hk hs) ho hk,none:=λo k hs ho hk=>h.none o k (h2 o k ho hk hs) ho hk}
theorem trans(h:IW p S s t)(h':IW p S' t u)(hd:∀o k,S o k->S' o k->False):IW p (λo k=>S o k\/S' o k) s u:=by
 refine⟨h'.right,h'.on.trans h.on,h'.aF.trans h.aF,h'.jf.trans h.jf,h'.O.trans h.O,h'.dB.trans h.dB,h'.ak.trans h.ak,λo=>(h'.eH o).trans (h.eH o),λo=>(h'.aH o).trans (h.aH o),λo k=>?_,λb g=>xX (h'.less b g) (h.less b g),λo k hn=>?_,λo k hn=>?_,λo k hs ho hk hkd hb b hbn=>?_,λo k hs ho hk hz=>?_⟩
 ·obtain⟨a1,a2,a3⟩:=h.aK o k;obtain⟨b1,b2,b3⟩:=h'.aK o k;exact⟨b1.trans a1,b2.trans a2,b3.trans a3⟩
 ·exact(h'.eU o k λhs=>hn (.inr hs)).trans (h.eU o k λhs=>hn (.inl hs))
 ·exact(h'.kept o k λhs=>hn (.inr hs)).trans (h.kept o k λhs=>hn (.inl hs))
 ·have ho':o<t.ak.length:=by rw[h.ak];exact ho
  have hk':k<(t.aC o).aH.length:=by rw[h.aH];exact hk
  rcases hs with hs|hs
  ·rw[h'.eU o k (hd o k hs)]at hb
   have h1:=h.done o k hs ho hk hkd hb b hbn;have h2:=h'.less b (s.aK o k).dW;have h3:=Xl h'.right (o:=o) (k:=k) (b:=b) (by rw[h'.ak];exact ho') (by rw[h'.aH];exact hk') hbn
   rw[(h'.aK o k).1,(h.aK o k).1]at h3
   omega
  ·have:=h'.done o k hs ho' hk' (by rw[h.eH];exact hkd) hb b hbn
   rwa [(h.aK o k).1]at this
 ·have ho':o<t.ak.length:=by rw[h.ak];exact ho
  have hk':k<(t.aC o).aH.length:=by rw[h.aH];exact hk
  rcases hs with hs|hs
  ·exact(h'.kept o k (hd o k hs)).trans (h.none o k hs ho hk hz)
  ·rw[h'.none o k hs ho' hk' (λb hbn=>by
    have h1:=hz b hbn;have h2:=h.less b (s.aK o k).dW;have h3:=Xl h.right ho' hk' hbn;rw[(h.aK o k).1]at h3 ⊢
    omega)]
   exact h.kept o k λhs'=>hd o k hs' hs
end IW
theorem Ou{o k:Nat}{but:Int}:∀ {bs:List Nat} {s:aI} {n:Int},(∀b∈bs,lW s b (s.aK o k).dW=0)->uM o k but bs s n=(s,n)
 |[],_,_,_=>rfl
 |b::r,s,n,h=>by
  have:=h b (bW ..);rw[zM (.inr (by omega)),Ou λx hx=>h x (aY _ hx)]
theorem Zo{p:dG}{s:aI}(h:lu p s){o k:Nat}(ho:o<s.ak.length)(hk:k<(s.aC o).aH.length)(hkd:(s.aC o).eH=1):May s o k (s.aK o k).eU:=
 ⟨ho,hk,hkd,(h.sane.aK ho hk).2.2.2.1,iT _⟩
theorem YA{p:dG}{s:aI}{o k:Nat}(h:lu p s)(ho:o<s.ak.length)(hk:k<(s.aC o).aH.length)(hkd:(s.aC o).eH=1):IW p (λo' k'=>o'=o/\k'=k) s (PU p s o k):=by
 have hm:=Zo h ho hk hkd;obtain⟨h1,h2,h3⟩:=QT (but:=-1) h hm;change Held p s (PU p s o k) o k _ at h1
 have hbk:((PU p s o k).aK o k).eU=(qM p s o k (s.aK o k).eU (-1)).2:=by
  rw[h1.eU,aB ⟨rfl,rfl⟩];omega
 refine⟨h1.right,h1.on,h1.aF,h1.jf,h1.O,h1.dB,h1.ak,h1.eH,h1.aH,h1.aK,h1.jkN,λo' k' hn=>?_,λo' k' hn=>?_,λo' k' hs ho' hk' Uh hb b hbn=>?_,λo' k' hs ho' hk' hz=>?_⟩
 ·rw[h1.eU,au hn,qx]
 ·rw[h1.kept,au (by omega),je]
 ·obtain⟨rfl,rfl⟩:=hs;exact Wp (but:=-1) h hm (by rw[<- hbk];exact hb) hbn (by omega)
 ·obtain⟨rfl,rfl⟩:=hs;have:PU p s o' k'=s:=by
   unfold PU qM;rw[Ou (λb hb=>hz b (JO p b hb))]
  rw[this]
theorem IZ{p:dG}{s:aI}{o:Nat}(h:lu p s)(ho:o<s.ak.length)(hkd:(s.aC o).eH=1):∀n,n<=(s.aC o).aH.length->IW p (λo' k'=>o'=o/\k'<n) s (JA p o n s)
 |0,_=>(IW.same (S:=λo' k'=>o'=o/\k'<0) h λ_ _ hs=>by omega)
 |n+1,hn=>by
  have h1:=IZ h ho hkd n (by omega)
  have h2:=YA h1.right (o:=o) (k:=n) (by rw[h1.ak];exact ho) (by rw[h1.aH];omega) (by rw[h1.eH];exact hkd)
  exact(h1.trans h2 (λo' k' hs hs'=>by omega)).mono (λo' k' hs=>by omega) (λo' k' _ _ hs=>by omega)
theorem Vj{p:dG}{s:aI}{o:Nat}(h:lu p s)(ho:o<s.ak.length):IW p (λo' _=>o'=o) s (Hg p s o):=by
 unfold Hg;split
 ·rename_i hkd
  exact(IZ h ho hkd _ (ay _)).mono (λo' k' hs=>hs.1) (λo' k' _ hk hs=>⟨hs,by rw[hs]at hk;exact hk⟩)
 ·rename_i hkd
  exact IW.same h λo' k' hs _ _=>by rw[hs];exact hkd
theorem Et{p:dG}{s:aI}(h:lu p s):∀n,n<=s.ak.length->IW p (λo _=>o<n) s (jM p n s)
 |0,_=>(IW.same (S:=λo _=>o<0) h λ_ _ hs=>by omega)
 |n+1,hn=>by
  have h1:=Et h n (by omega)
  have h2:=Vj h1.right (o:=n) (by rw[h1.ak];omega)
  exact(h1.trans h2 (λo' k' hs hs'=>by omega)).mono (λo' k' hs=>by omega) (λo' k' _ _ hs=>by omega)
def mW(s:aI):aI:={s with ak:=s.ak.map MJ}
theorem O7(s:aI)(o:Nat)(ho:o<s.ak.length):(mW s).aC o=MJ (s.aC o):=by
 unfold aI.aC bK mW;simp[ho]
theorem Ib(s:aI){o k:Nat}(ho:o<s.ak.length)(hk:k<(s.aC o).aH.length):(mW s).aK o k=if(s.aC o).eH=0 then {s.aK o k with eU:=(s.aK o k).jk}else s.aK o k:=by
 unfold aI.aK;rw[O7 s o ho];unfold MJ;split
 ·rw[qw (by simpa using hk),qw hk]
  simp
 ·rfl
theorem BJ(s:aI){o:Nat}(ho:o<s.ak.length):((mW s).aC o).aH.length=(s.aC o).aH.length:=by
 rw[O7 s o ho];unfold MJ;split
 ·simp
 ·rfl
theorem RD(s:aI){o:Nat}(ho:o<s.ak.length):((mW s).aC o).eH=if(s.aC o).eH=0 then 1 else(s.aC o).eH:=by
 rw[O7 s o ho];unfold MJ;split<;>rfl
theorem yA(s:aI):(mW s).ak.length=s.ak.length:=by simp[mW]
theorem Ll{p:dG}{s:aI}(h:aO p s=0):aO p (mW s)=0:=by
 obtain⟨hr,LP⟩:=oV.1 h;have hs:=hr.sane;have hbound:∀b g:Int,bound (mW s) b g=bound s b g:=λb g=>by
  unfold bound;have:pO (mW s) b g=pO s b g:=Rq (s:=s) (t:=mW s) rfl (λx hx=>by
   obtain⟨i,hi,rfl⟩:=bg hx;have:=hs.yL hi;rw[iZ hi]at this
   rw[Ib s (by omega) (by omega)]
   split<;>rfl) b g
  rw[this];rfl
 refine oV.2 ⟨lu.of (pz.of hs.shelf (by rw[yA];exact hs.nX) hs.uf (λo ho=>?_) (λo k ho hk=>?_) hs.aA (λx hx=>?_) (λx hx=>bJ.1 (eG.1 hs.form).2.2.2.1 x hx)
  (eG.1 hs.form).2.2.2.2.1 (eG.1 hs.form).2.2.2.2.2.1 (eG.1 hs.form).2.2.2.2.2.2) (λg hg=>hr.sum hg) (λb g hb hg=>by rw[hbound];exact hr.bnd hb hg) (λo k ho hk=>?_),λo ho hh=>?_⟩
 ·rw[yA]at ho
  rw[BJ s ho,RD s ho];refine⟨hs.rE ho,?_⟩
  have:=hs.eH ho;split<;>omega
 ·rw[yA]at ho
  rw[BJ s ho]at hk
  rw[Ib s ho hk];have h1:=hs.aK ho hk;split
  ·exact rO.2 ⟨h1.1,h1.2.1,h1.2.2.1,by simp only;omega⟩
  ·exact rO.2 h1
 ·have h1:=og.1 (bJ.1 (eG.1 hs.form).2.2.1 x hx);have hx':x∈s.aA:=hx;obtain⟨i,hi,rfl⟩:=bg hx';have:=(hs.yL hi).1;rw[iZ hi]at this
  refine og.2 ⟨by rw[yA];exact h1.1,?_,h1.2.2⟩
  rw[BJ s (by omega)]
  exact h1.2.1
 ·rw[yA]at ho
  rw[BJ s ho]at hk
  have h1:=hr.BU ho hk;have h2:=hs.aK ho hk;have h3:=(wH hs.aA o k).1;refine uP.2 ?_
  rw[Ib s ho hk,RD s ho];by_cases hz:(s.aC o).eH=0
  ·rw[aB hz,aB hz,au (by omega)]
   rw[aB hz]at h1
   have e:kept (mW s).aA o k=kept s.aA o k:=rfl;rw[e];simp only;omega
  ·rw[au hz,au hz];exact h1
 ·rw[yA]at ho
  rw[RD s ho,yU,BJ s ho]at hh
  obtain⟨h1,h2⟩:=hh;by_cases hz:(s.aC o).eH=0
  ·have hl:=hs.rE ho;have h3:=h2 0 (by omega)
   have h4:=Ib s (o:=o) (k:=0) ho (by omega)
   rw[aB hz]at h4
   have h5:fG ((mW s).aC o).aH 0=(mW s).aK o 0:=rfl;rw[h5,h4]at h3
   have h6:=(hr.BU (o:=o) (k:=0) ho (by omega)).1
   rw[aB hz]at h6
   have h7:=hs.aK (o:=o) (k:=0) ho (by omega)
   have h8:=(wH hs.aA o (0:Nat)).1;simp only at h3
   omega
  ·rw[au hz]at h1
   refine LP o ho ⟨h1,yU.2 λk hk=>?_⟩
   have h3:=h2 k hk;have h4:=Ib s (o:=o) (k:=k) ho hk;rw[au hz]at h4
   have h5:fG ((mW s).aC o).aH k=(mW s).aK o k:=rfl;rw[h5,h4]at h3
   exact h3
theorem Ik{p:dG}{s:aI}(h:aO p s=0):IW p (λo _=>o<s.ak.length) (mW s) (EY p s):=
 Et (jm (Ll h)) _ (by rw[yA];exact ay _)
theorem jbR{p:dG}{S:Nat->Nat->Prop}{s t:aI}(h:IW p S s t)(hs:aO p s=0):aO p t=0:=by
 refine oV.2 ⟨h.right,λo ho=>?_⟩
 rw[h.ak]at ho
 have:=(oV.1 hs).2 o ho;rw[h.eH];rintro⟨h1,h2⟩;refine this ⟨h1,yU.2 λk hk=>?_⟩
 have h3:=yU.1 h2 k (by rw[h.aH];exact hk)
 have h4:=h.aK o k;unfold aI.aK at h4
 rw[h4.2.1,h4.2.2]at h3
 exact h3
theorem YH{p:dG}{s:aI}(h:aO p s=0):aO p (EY p s)=0:=jbR (Ik h) (Ll h)
theorem jbZ{p:dG}{s:aI}(h:aO p s=0):(EY p s).ak.length=s.ak.length:=by rw[(Ik h).ak,yA]
theorem YG{p:dG}{s:aI}(h:aO p s=0){o:Nat}(ho:o<s.ak.length):((EY p s).aC o).aH.length=(s.aC o).aH.length:=by rw[(Ik h).aH,BJ s ho]
theorem Xw{l:List eX}(P:eX->Bool)(h:iI l=true):iI (l.filter P)=true:=by
 obtain⟨h1,h2⟩:=gI.1 h;exact gI.2 ⟨λx hx=>h1 x (jX.1 hx).1,h2.sublist List.filter_sublist⟩
theorem jcD(l:List eX)(o:Nat)(o' k':Int):kept (l.filter λh=>decide (h.aC≠o)) o' k'=if o'=(o:Int)then 0 else kept l o' k':=by
 unfold kept;rw[List.filter_filter];split
 ·rename_i e
  rw[Lp]
  ·rfl
  ·intro x _;unfold CP;subst e;by_cases hx:x.aC=(o:Int)<;>simp[hx]
 ·rename_i e
  congr 2
  apply List.filter_congr;intro x _;unfold CP;by_cases hx:x.aC=o'
  ·have:x.aC≠(o:Int):=by rw[hx];exact e
   simp[hx,e]
  ·simp[hx]
theorem Wv{f:eX->Int}(P:eX->Bool):∀ {l:List eX},(∀x∈l,0<=f x)->0<=((l.filter P).map f).sum/\((l.filter P).map f).sum<=(l.map f).sum
 |[],_=>by simp
 |x::l,h=>by
  have h1:=Wv P (l:=l) λy hy=>h y (aY _ hy)
  have h2:=h x (bW ..);rw[kS];split
  ·rw[dJ,iL,dJ,iL];omega
  ·rw[dJ,iL];omega
theorem GH{s:aI}{o:Nat}(ho:o<s.ak.length)(o':Nat):(yj s o).aC o'=if o'=o then⟨2,(s.aC o).aH.map λx=>{x with eU:=x.jk - x.qI}⟩else s.aC o':=FT ho _ _
theorem FH(s:aI)(o:Nat):(yj s o).ak.length=s.ak.length:=by simp[yj]
theorem GI{s:aI}{o:Nat}(ho:o<s.ak.length)(o':Nat):((yj s o).aC o').aH.length=(s.aC o').aH.length:=by
 rw[GH ho];split
 ·rename_i e
  subst e;simp
 ·rfl
theorem LC{s:aI}{o:Nat}(ho:o<s.ak.length){o' k':Nat}(hk:k'<(s.aC o').aH.length):(yj s o).aK o' k'=if o'=o then {s.aK o' k' with eU:=(s.aK o' k').jk - (s.aK o' k').qI}else s.aK o' k':=by
 unfold aI.aK;rw[GH ho];split
 ·rename_i e
  subst e;rw[qw (by simpa using hk),qw hk]
  simp
 ·rfl
theorem jbr{p:dG}{s:aI}{o:Nat}(h:aO p s=0)(ho:o<s.ak.length):aO p (yj s o)=0:=by
 obtain⟨hr,LP⟩:=oV.1 h;have hs:=hr.sane;have hbound:∀b g:Int,bound (yj s o) b g<=bound s b g:=λb g=>by
  have e:pO (yj s o) b g=pO {s with aA:=s.aA.filter λh=>decide (h.aC≠o)} b g:=Rq (s:={s with aA:=s.aA.filter λh=>decide (h.aC≠o)}) (t:=yj s o) rfl (λx hx=>by
   have hx':=(jX.1 hx).1;obtain⟨i,hi,rfl⟩:=bg hx';have:=hs.yL hi;rw[iZ hi]at this
   rw[LC ho (by omega)]
   split<;>rfl) b g
  have e2:pO {s with aA:=s.aA.filter λh=>decide (h.aC≠o)} b g<=pO s b g:=(Wv (f:=xM s b g) _ λx hx=>by
   have:=(nH.1 ((gI.1 hs.aA).1 x hx)).2;unfold xM;split<;>omega).2
  unfold bound;rw[e];have:(yj s o).aF=s.aF:=rfl;rw[this];omega
 refine oV.2 ⟨lu.of (pz.of hs.shelf (by rw[FH];exact hs.nX) hs.uf (λo' ho'=>?_) (λo' k ho' hk=>?_) (Xw _ hs.aA) (λx hx=>?_) (λx hx=>bJ.1 (eG.1 hs.form).2.2.2.1 x hx)
  (eG.1 hs.form).2.2.2.2.1 (eG.1 hs.form).2.2.2.2.2.1 (eG.1 hs.form).2.2.2.2.2.2) (λg hg=>hr.sum hg) (λb g hb hg=>xX (hbound b g) (hr.bnd hb hg)) (λo' k ho' hk=>?_),λo' ho' hh=>?_⟩
 ·rw[FH]at ho'
  rw[GI ho];refine⟨hs.rE ho',?_⟩
  rw[GH ho];split
  ·simp only;omega
  ·exact hs.eH ho'
 ·rw[FH]at ho'
  rw[GI ho]at hk
  rw[LC ho hk];have h1:=hs.aK ho' hk;split
  ·exact rO.2 ⟨h1.1,h1.2.1,h1.2.2.1,by simp only;omega⟩
  ·exact rO.2 h1
 ·have hx':=(jX.1 hx).1;have h1:=og.1 (bJ.1 (eG.1 hs.form).2.2.1 x hx');refine og.2 ⟨by rw[FH];exact h1.1,?_,h1.2.2⟩
  rw[GI ho];exact h1.2.1
 ·rw[FH]at ho'
  rw[GI ho]at hk
  have h1:=hr.BU ho' hk;have h2:=hs.aK ho' hk;have e:kept (yj s o).aA o' k=if(o':Int)=(o:Int)then 0 else kept s.aA o' k:=jcD _ _ _ _
  refine uP.2 ?_
  rw[LC ho hk,GH ho,e];by_cases he:o'=o
  ·subst he;rw[aB rfl,aB rfl,aB rfl];simp only;rw[au (by omega)]
   omega
  ·rw[au he,au he,au (by omega)]
   exact h1
 ·rw[FH]at ho'
  rw[GH ho]at hh
  split at hh
  ·exact absurd hh.1 (by simp only;omega)
  ·exact LP o' ho' hh
theorem TB{p:dG}{s:aI}{o:Int}(h:(Ad p s o).2=0):aO p s=0/\∃i:Nat,o=i/\i<s.ak.length/\(s.aC i).eH≠2/\(Ad p s o).1=yj s i:=by
 unfold Ad at h ⊢
 by_cases h1:aO p s=0
 ·rw[au (λhn=>hn h1)]at h ⊢
  cases h2:dM o 0 (s.ak.length - 1)
  ·rw[h2,aB (by rfl)]at h
   simp at h
  ·rw[h2,au (by simp)]at h
   have h3:=dZ.1 h2;by_cases h4:(s.aC o.toNat).eH=2
   ·rw[aB h4]at h
    simp at h
   ·refine⟨h1,o.toNat,by omega,by omega,h4,?_⟩
    rw[au (by simp),au h4]
 ·rw[aB h1]at h
  exact absurd h h1
theorem Qz{p:dG}{s:aI}(h:(zO p s).2=0):aO p s=0/\(zO p s).1=EY p s:=by
 unfold zO at h ⊢
 by_cases h1:aO p s=0
 ·rw[au (λhn=>hn h1)]
  exact⟨h1,rfl⟩
 ·rw[aB h1]at h
  exact absurd h h1
def jdf(s:aI)(g:Int)(o k:Nat):Int:=if(s.aK o k).dW=g then(s.aK o k).qI else 0
def WU(F:Nat->Nat->Int)(s:aI)(o k:Nat):Int:=ny (λi=>ny (F i) (s.aC i).aH.length) o+ny (F o) k
def I4(s:aI)(k:Nat):Int:=ny (λo=>if(bK s.ak o).eH=2 then 0 else 1) k
theorem jet(F:Nat->Nat->Int)(s:aI)(o:Nat):WU F s (o+1) 0=WU F s o (s.aC o).aH.length:=by
 show(ny _ o+ny (F o) (s.aC o).aH.length)+0=_;unfold WU;omega
theorem UJ(s:aI)(k:Nat):I4 s (k+1)=I4 s k+if(bK s.ak k).eH=2 then 0 else 1:=rfl
theorem Ns(s:aI)(k:Nat):0<=I4 s k/\I4 s k<=k:=by
 have:=BP (f:=λo=>if(bK s.ak o).eH=2 then(0:Int)else 1) (n:=k) (m:=1) (λj _=>by show 0<=(if(bK s.ak j).eH=2 then(0:Int)else 1)/\(if(bK s.ak j).eH=2 then(0:Int)else 1)<=1;split<;>omega)
 unfold I4;omega
def G8(s:aI):Int:=I4 s s.ak.length
def Zy(p:dG)(s:aI):Int×Int:=if aO p s≠0 then(0,aO p s)else(G8 s,0)
theorem jgO{p:dG}{s:aI}(h:aO p s≠0):Zy p s=(0,aO p s):=by unfold Zy;rw[aB h]
theorem jcn{p:dG}{s:aI}(h:aO p s=0):Zy p s=(G8 s,0):=by unfold Zy;rw[au (λhn=>hn h)]
end Wh
