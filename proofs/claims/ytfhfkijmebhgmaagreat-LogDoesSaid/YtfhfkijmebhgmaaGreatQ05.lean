/- Texts of the claim, joined. -/
import Derived.Test.YtfhfkijmebhgmaaGreatQ04
set_option maxHeartbeats 20000000
set_option maxRecDepth 100000
namespace Wh
theorem DJ{α β:Type}{P:β->Prop}{f:β->α->β}:∀ {l:List α} {t:β},(∀t x,x∈l->P t->P (f t x))->P t->P (l.foldl f t)
 |[],_,_,h=>h
 |x::l,_,hs,h=>DJ (l:=l) (λt y hy=>hs t y (bP _ hy)) (hs _ x (dS ..) h)
structure wO(p:dA)(s t:aJ):Prop where
 right:lI p t
 oh:∀o,o<t.ak.length->¬((t.aC o).dW=1/\oZ (t.aC o)=true)
 rest:t={s with aF:=t.aF}
 ext:∃l,t.aF=s.aF++l/\∀x∈l,((0<=x.src/\x.src<p.bQ.length)/\(0<=x.dst/\x.dst<p.bQ.length)/\(0<=x.dh/\x.dh<p.aP.length))/\(p.bin x.src.toNat).front=false/\(p.bin x.dst.toNat).front=true/\
  cell s.on x.dst.toNat x.dh.toNat+iq t x.dst x.dh<=(p.bin x.dst.toNat).high
 less:∀b:Nat,b<p.bQ.length->free p t b<=free p s b/\(free p t b<free p s b->0<=free p t b)
section
variable {p:dA} {s t:aJ} {b g f:Nat} {n:Int}
theorem jal(l:List Move)(x:Move)(b g:Int):lZ (l++[x]) b g=lZ l b g+Aj b g x:=by
 unfold lZ;rw[fJ,ug];simp
theorem Ye(l:List Move)(x:Move)(b g:Int):Lh (l++[x]) b g=Lh l b g+toN b g x:=by
 unfold Lh;rw[fJ,ug];simp
def zC(t:aJ)(x:Move):aJ:={t with aF:=t.aF++[x]}
theorem Yh(x:Move)(b g:Int):bound (zC t x) b g=bound t b g+Aj b g x:=by
 unfold bound;have e:pK (zC t x) b g=pK t b g:=rfl;have e2:lZ (zC t x).aF b g=lZ t.aF b g+Aj b g x:=jal _ _ _ _;rw[e,e2];omega
theorem FQ(x:Move)(b g:Int):iq (zC t x) b g=iq t b g+toN b g x:=Ye _ _ _ _
theorem jaF(b':Nat)(hg:g<p.aP.length):free p (zC t ⟨g,f,b,n⟩) b'=free p t b' - if b'=b then n*bI p.aP g else 0:=by
 unfold free;by_cases h:b'=b
 ·subst h;rw[aB rfl];have:=EH (f:=λg=>(cell t.on (b':Int).toNat g+iq t b' g)*bI p.aP g) (g:=λg'=>(cell (zC t ⟨g,f,b',n⟩).on (b':Int).toNat g'+iq (zC t ⟨g,f,b',n⟩) b' g')*bI p.aP g') (n:=p.aP.length) (i:=g) (d:=n*bI p.aP g) hg (λk hk hne=>by
   have e:iq (zC t ⟨g,f,b',n⟩) b' k=iq t b' k:=by
    rw[FQ];unfold toN;rw[ay (by simp only;omega),jC]
   simp only[e];rfl) (by
   have e:iq (zC t ⟨g,f,b',n⟩) b' g=iq t b' g+n:=by
    rw[FQ];unfold toN;rw[aB ⟨rfl,rfl⟩]
   simp only[e];have e1:(zC t ⟨g,f,b',n⟩).on=t.on:=rfl;rw[e1,<- xW];congr 1
   omega)
  rw[this];omega
 ·rw[ay h,qx];congr 1
  refine zo λk hk=>?_
  have e:iq (zC t ⟨g,f,b,n⟩) b' k=iq t b' k:=by
   rw[FQ];unfold toN;rw[ay (by simp only;omega),jC]
  rw[e];rfl
theorem jgr{r z n:Int}(hz:1<=z)(hn:1<=n)(h:n<=r.tdiv z):n*z<=r:=by
 have h0:0<r:=by
  refine Classical.byContradiction λhr=>?_
  have h1:(-r).tdiv z= -(r.tdiv z):=Int.neg_tdiv ..;have h2:0<=(-r).tdiv z:=Int.tdiv_nonneg (by omega) (by omega)
  omega
 have h1:z*r.tdiv z+r.tmod z=r:=Int.mul_tdiv_add_tmod r z;have h2:0<=r.tmod z:=Int.tmod_nonneg _ (by omega)
 have h3:n*z<=r.tdiv z*z:=wU h (by omega)
 have h4:r.tdiv z*z=z*r.tdiv z:=Int.mul_comm _ _;omega
theorem jcm(h:wO p s t)(hb:b<p.bQ.length)(hg:g<p.aP.length)(hf:f<p.bQ.length)(hbf:(p.bin b).front=true)(Xu:(p.bin f).front=false)(h8:t.aF.length<8)(hn:0<n)
  (h1:n<=(p.bin b).high - cell t.on b g - iq t b g) (h2:n<=lU t f g) (h3:n*bI p.aP g<=free p t b):wO p s (zC t ⟨g,f,b,n⟩):=by
 have hr:=h.right;have hs:=hr.sane;have hfb:f≠b:=λe=>by rw[e,hbf]at Xu;cases Xu
 have hav:=hr.OL hf hg;have hcl:=hs.cell hf hg;have hon:t.on=s.on:=by rw[h.rest]
 refine⟨lI.of (o9.of hs.shelf hs.qH ?_ (λo ho=>⟨hs.tN ho,hs.dW ho⟩) (λo k ho hk=>rP.2 (hs.aG ho hk)) hs.aA (λx hx=>aX.1 (dR.1 hs.form).2.2.1 x hx) (λx hx=>?_)
  (dR.1 hs.form).2.2.2.2.1 (dR.1 hs.form).2.2.2.2.2.1 (dR.1 hs.form).2.2.2.2.2.2) (λg' hg'=>hr.sum hg') (λb' g' hb' hg'=>?_) (λo k ho hk=>hr.aG o k ho hk),h.oh,?_,?_,λb' hb'=>?_⟩
 ·show(t.aF++[_]).length<=8;simp
  omega
 ·rcases jT.1 hx with hx|hx
  ·exact aX.1 (dR.1 hs.form).2.2.2.1 x hx
  ·obtain rfl:=iP.1 hx;exact Gh.2 ⟨by simp only;omega,by simp only;omega,by simp only;omega,by simp only;omega,by simp only;omega,by simp only;omega⟩
 ·have hq:=hr.bnd hb' hg';rw[Yh];have e1:(zC t ⟨g,f,b,n⟩).on=t.on:=rfl;rw[e1];unfold Aj;simp only;split
  ·rename_i hc
   obtain⟨c1,c2⟩:=hc;obtain rfl:f=b':=by omega
   obtain rfl:g=g':=by omega
   unfold lU at h2
   simp only[bZ]at h2
   omega
  ·omega
 ·have:=h.rest;unfold zC;simp only;rw[this]
 ·obtain⟨l,hl,hx⟩:=h.ext;refine⟨l++[⟨g,f,b,n⟩],?_,λx hxm=>?_⟩
  ·show t.aF++[_]=_;rw[hl,eH]
  ·rw[FQ];unfold toN;simp only;rcases jT.1 hxm with hxm|hxm
   ·obtain⟨x1,x2,x3,x4⟩:=hx x hxm;refine⟨x1,x2,x3,?_⟩
    split
    ·rename_i hc
     obtain⟨c1,c2⟩:=hc;rw[<- c1,<- c2];simp only[bZ];rw[<- hon];omega
    ·omega
   ·obtain rfl:=iP.1 hxm;refine⟨⟨by simp only;omega,by simp only;omega,by simp only;omega⟩,by simpa using Xu,by simpa using hbf,?_⟩
    rw[aB ⟨rfl,rfl⟩];simp only[bZ];rw[<- hon];omega
 ·obtain⟨l1,l2⟩:=h.less b' hb';rw[jaF b' hg];have hsz:=zH hs.plan hg;have wK:0<=n*bI p.aP g:=BM (by omega) (by omega)
  by_cases e:b'=b
  ·subst e;rw[aB rfl];omega
  ·rw[ay e];omega
theorem QJ(h:wO p s t)(hb:b<p.bQ.length)(hg:g<p.aP.length)(hf:f<p.bQ.length)(hbf:(p.bin b).front=true)(Xu:(p.bin f).front=false):wO p s (Ie p t b g f):=by
 unfold Ie;split
 ·exact h
 ·split
  ·rename_i h8 hn
   have hsz:=zH h.right.sane.plan hg;have hN:Hr p t b g f<=(p.bin b).high - cell t.on b g - iq t b g/\Hr p t b g f<=lU t f g/\Hr p t b g f<=(free p t b).tdiv (bI p.aP g):=by
    unfold Hr;omega
   exact jcm h hb hg hf hbf Xu (by omega) hn hN.1 hN.2.1 (jgr hsz.1 (by omega) hN.2.2)
  ·exact h
theorem Oo(h:wO p s t)(hb:b<p.bQ.length)(hg:g<p.aP.length)(hbf:(p.bin b).front=true):wO p s (sW p b t g):=by
 unfold sW;split
 ·exact DJ (P:=wO p s) (λ_ _ hf h=>QJ h hb hg (Dw.1 hf).1 hbf (Dw.1 hf).2) h
 ·exact h
theorem QK(h:wO p s t)(hb:b<p.bQ.length)(hbf:(p.bin b).front=true):wO p s ((List.range p.aP.length).foldl (sW p b) t):=
 DJ (P:=wO p s) (λ_ _ hg h=>Oo h hb (gZ.1 hg) hbf) h
theorem Om(h:aQ p s=0):wO p s s:=by
 obtain⟨h1,h2⟩:=oU.1 h;exact⟨h1,h2,rfl,⟨[],by simp,λx hx=>by simp at hx⟩,λb hb=>⟨iM _,λhh=>absurd hh (by omega)⟩⟩
theorem jaq(h:aQ p s=0):wO p s (Oq p s):=
 DJ (P:=wO p s) (λ_ _ hb h=>QK h (Dw.1 hb).1 (Dw.1 hb).2) (Om h)
theorem jap(h:wO p s t):aQ p t=0:=oU.2 ⟨h.right,h.oh⟩
theorem jcn{t:aJ}(h:8<=t.aF.length)(p:dA)(b g f:Nat):Ie p t b g f=t:=by unfold Ie;rw[aB h]
theorem P8(h:8<=t.aF.length)(p:dA)(b g:Nat):sW p b t g=t:=by
 unfold sW;split
 ·exact DJ (P:=λu=>u=t) (λu f _ hu=>by rw[hu];exact jcn h p b g f) rfl
 ·rfl
theorem jar(h:8<=t.aF.length)(p:dA)(b:Nat)(l:List Nat):l.foldl (sW p b) t=t:=
 DJ (P:=λu=>u=t) (λu g _ hu=>by rw[hu];exact P8 h p b g) rfl
theorem X8(h:8<=t.aF.length)(p:dA)(l:List Nat):l.foldl (λt b=>(List.range p.aP.length).foldl (sW p b) t) t=t:=
 DJ (P:=λu=>u=t) (λu b _ hu=>by rw[hu];exact jar h p b _) rfl
theorem WU(h:(fill p s).2=0):aQ p s=0/\(fill p s).1=Oq p s:=by
 unfold fill at h ⊢
 by_cases h1:aQ p s=0
 ·rw[ay (λhn=>hn h1)]
  exact⟨h1,rfl⟩
 ·rw[aB h1]at h
  exact absurd h h1
end
section
variable {p:dA} {s:aJ} {k:Nat} {n:Int}
theorem Sr{α:Type}(f:α->Int):∀ {l:List α} {k:Nat} (hk:k<l.length),((l.eraseIdx k).map f).sum=(l.map f).sum - f l[k]
 |x::l,0,_=>by simp;omega
 |x::l,k+1,hk=>by
  have:=Sr f (l:=l) (k:=k) (by simpa using hk)
  simp only[List.eraseIdx_cons_succ,dn,iI,rQ];omega
structure Moves(p:dA)(s:aJ)(k:Nat)(n:Int):Prop where
 hk:k<s.aF.length
 n0:0<=n
 n1:n<=(bH s.aF k).n
 full:cell s.on (bH s.aF k).dst.toNat (bH s.aF k).dh.toNat+n<=200
theorem jch(hs:o9 p s)(hk:k<s.aF.length):(bH s.aF k).n<=lZ s.aF (bH s.aF k).src (bH s.aF k).dh:=by
 have h1:=Sr (Aj (bH s.aF k).src (bH s.aF k).dh) hk;have h2:0<=((s.aF.eraseIdx k).map (Aj (bH s.aF k).src (bH s.aF k).dh)).sum:=(Fp (m:=200) (λx hx=>by
  obtain⟨y,hy,rfl⟩:=kV.1 hx;obtain⟨i,hi,rfl⟩:=aV (zK hy);have:=hs.bH hi;rw[Wh.pI hi]at this
  unfold Aj;split<;>omega)).1
 have h3:Aj (bH s.aF k).src (bH s.aF k).dh s.aF[k]=(bH s.aF k).n:=by
  rw[pI hk];unfold Aj;rw[aB ⟨rfl,rfl⟩]
 unfold lZ;omega
theorem VN(hc:aQ p s=0)(f:Moves p s k n){b g:Nat}(hb:b<p.bQ.length)(hg:g<p.aP.length):cell (AQ s k n).on b g=cell s.on b g+if(g:Int)=(bH s.aF k).dh/\(b:Int)=(bH s.aF k).dst then n else if(g:Int)=(bH s.aF k).dh/\(b:Int)=(bH s.aF k).src then -n else 0:=by
 have hs:=(jf hc).sane;obtain⟨m1,m2,m3,m4,m5,m6⟩:=hs.bH f.hk;have h1:(bH s.aF k).src.toNat<s.on.length:=by rw[hs.tY];omega
 have h2:(bH s.aF k).dh.toNat<(fO s.on (bH s.aF k).src.toNat).length:=by rw[hs.rowLen (by omega)];omega
 have h3:(bH s.aF k).dst.toNat<(setCell s.on (bH s.aF k).src.toNat (bH s.aF k).dh.toNat (cell s.on (bH s.aF k).src.toNat (bH s.aF k).dh.toNat - n)).length:=by rw[qh,hs.tY];omega
 have h4:(bH s.aF k).dh.toNat<(fO (setCell s.on (bH s.aF k).src.toNat (bH s.aF k).dh.toNat (cell s.on (bH s.aF k).src.toNat (bH s.aF k).dh.toNat - n)) (bH s.aF k).dst.toNat).length:=by
  rw[uq,hs.rowLen (by omega)];omega
 have e:cell (AQ s k n).on b g=_:=pR h3 h4;rw[e,pR h1 h2,pR h1 h2];by_cases c1:(g:Int)=(bH s.aF k).dh/\(b:Int)=(bH s.aF k).dst
 ·rw[aB (by omega),ay (by omega),aB c1]
  obtain⟨rfl,rfl⟩:b=(bH s.aF k).dst.toNat/\g=(bH s.aF k).dh.toNat:=by omega
  rfl
 ·rw[ay (by omega),ay c1]
  by_cases c2:(g:Int)=(bH s.aF k).dh/\(b:Int)=(bH s.aF k).src
  ·rw[aB (by omega),aB c2]
   obtain⟨rfl,rfl⟩:b=(bH s.aF k).src.toNat/\g=(bH s.aF k).dh.toNat:=by omega
   omega
  ·rw[ay (by omega),ay c2,jC]
theorem jbs(f:Moves p s k n)(b g:Int):bound (AQ s k n) b g=bound s b g - if(bH s.aF k).src=b/\(bH s.aF k).dh=g then(bH s.aF k).n else 0:=by
 unfold bound;have e1:pK (AQ s k n) b g=pK s b g:=rfl;have e2:lZ (AQ s k n).aF b g=_:=Sr (Aj b g) f.hk;rw[e1,e2];have e3:Aj b g (s.aF[k]'f.hk)=if(bH s.aF k).src=b/\(bH s.aF k).dh=g then(bH s.aF k).n else 0:=by
  rw[pI f.hk];rfl
 rw[e3];unfold lZ;omega
theorem jfU(hc:aQ p s=0)(f:Moves p s k n){g:Nat}(_:g<p.aP.length):BU (AQ s k n).on g=BU s.on g:=by
 have hs:=(jf hc).sane;obtain⟨m1,m2,m3,m4,m5,m6⟩:=hs.bH f.hk;have h1:(bH s.aF k).src.toNat<s.on.length:=by rw[hs.tY];omega
 have h2:(bH s.aF k).dh.toNat<(fO s.on (bH s.aF k).src.toNat).length:=by rw[hs.rowLen (by omega)];omega
 have h3:(bH s.aF k).dst.toNat<(setCell s.on (bH s.aF k).src.toNat (bH s.aF k).dh.toNat (cell s.on (bH s.aF k).src.toNat (bH s.aF k).dh.toNat - n)).length:=by rw[qh,hs.tY];omega
 have h4:(bH s.aF k).dh.toNat<(fO (setCell s.on (bH s.aF k).src.toNat (bH s.aF k).dh.toNat (cell s.on (bH s.aF k).src.toNat (bH s.aF k).dh.toNat - n)) (bH s.aF k).dst.toNat).length:=by
  rw[uq,hs.rowLen (by omega)];omega
 have e:BU (AQ s k n).on g=_:=Ea h3 h4 g;rw[e,Ea h1 h2,pR h1 h2,ay (show ¬((bH s.aF k).dst.toNat=(bH s.aF k).src.toNat/\_)by omega)]
 split<;>omega
theorem jbr(hc:aQ p s=0)(f:Moves p s k n):aQ p (AQ s k n)=0:=by
 obtain⟨hr,Ky⟩:=oU.1 hc;have hs:=hr.sane;obtain⟨m1,m2,m3,m4,m5,m6⟩:=hs.bH f.hk;have hge:=jch hs f.hk;have n0:=f.n0;have n1:=f.n1;have kD:(AQ s k n).on.length=p.bQ.length:=by
  show(setCell (setCell _ _ _ _) _ _ _).length=_;rw[qh,qh,hs.tY]
 have vS:∀b,b<p.bQ.length->(fO (AQ s k n).on b).length=p.aP.length:=λb hb=>by
  show(fO (setCell (setCell _ _ _ _) _ _ _) b).length=_;rw[uq,uq,hs.rowLen hb]
 obtain⟨gs,hgs⟩:∃gs:Nat,(bH s.aF k).dh=gs:=⟨(bH s.aF k).dh.toNat,by omega⟩
 obtain⟨bs,hbs⟩:∃bs:Nat,(bH s.aF k).src=bs:=⟨(bH s.aF k).src.toNat,by omega⟩
 obtain⟨ds,hds⟩:∃ds:Nat,(bH s.aF k).dst=ds:=⟨(bH s.aF k).dst.toNat,by omega⟩
 have hbn:=hr.bnd (b:=bs) (g:=gs) (by omega) (by omega)
 have hhl:=DF hs bs gs s.aA.length;rw[Gq]at hhl
 have hfull:=f.full;rw[hgs,hds]at hfull
 simp only[bZ]at hfull
 refine oU.2 ⟨lI.of (o9.of ?_ hs.qH ?_ (λo ho=>⟨hs.tN ho,hs.dW ho⟩) (λo k ho hk=>rP.2 (hs.aG ho hk)) hs.aA (λx hx=>aX.1 (dR.1 hs.form).2.2.1 x hx) (λx hx=>?_)
  (dR.1 hs.form).2.2.2.2.1 (dR.1 hs.form).2.2.2.2.2.1 (dR.1 hs.form).2.2.2.2.2.2) (λg' hg'=>?_) (λb' g' hb' hg'=>?_) (λo k ho hk=>hr.aG o k ho hk),Ky⟩
 ·refine jZ.2 ⟨hs.plan,GX.2 ⟨kD,λb hb=>?_⟩⟩
  rw[kD]at hb
  refine⟨vS b hb,λg hg=>?_⟩
  rw[VN hc f hb hg];have hcl:=hs.cell hb hg;rw[hgs,hbs,hds];split
  ·rename_i c
   obtain⟨rfl,rfl⟩:g=gs/\b=ds:=by omega
   omega
  ·split
   ·rename_i c
    obtain⟨rfl,rfl⟩:g=gs/\b=bs:=by omega
    unfold bound at hbn
    rw[hgs,hbs]at hge
    omega
   ·omega
 ·show(s.aF.eraseIdx k).length<=8;rw[qC];have:=hs.vJ;split<;>omega
 ·exact aX.1 (dR.1 hs.form).2.2.2.1 x (zK hx)
 ·rw[jfU hc f hg'];exact hr.sum hg'
 ·have hq:=hr.bnd hb' hg';rw[jbs f,VN hc f hb' hg'];rw[hgs,hbs,hds];have hsd:bs≠ds:=by omega
  split
  ·rename_i c
   obtain⟨c1,c2⟩:=c;rw[ay (by omega),aB (by omega)]
   omega
  ·rename_i c
   split<;>omega
theorem TP{k n:Int}(h:(CW p s k n).2=0):aQ p s=0/\∃i:Nat,k=i/\Moves p s i n/\(CW p s k n).1=AQ s i n:=by
 unfold CW at h ⊢
 by_cases h1:aQ p s=0
 ·rw[ay (λhn=>hn h1)]at h ⊢
  cases h2:cZ k 0 (s.aF.length - 1)
  ·rw[h2,aB (by rfl)]at h
   simp at h
  rw[h2,ay (by simp)]at h
  rw[ay (by simp)]
  cases h3:cZ n 0 (bH s.aF k.toNat).n
  ·rw[h3,aB (by rfl)]at h
   simp at h
  rw[h3,ay (by simp)]at h
  rw[ay (by simp)]
  have h2':=dV.1 h2;have h3':=dV.1 h3;by_cases h4:200<cell s.on (bH s.aF k.toNat).dst.toNat (bH s.aF k.toNat).dh.toNat+n
  ·rw[aB h4]at h
   simp at h
  rw[ay h4];exact⟨h1,k.toNat,by omega,⟨by omega,h3'.1,h3'.2,by omega⟩,rfl⟩
 ·rw[aB h1]at h
  exact absurd h h1
end
section
variable {p:dA} {s:aJ} {k n:Int}
theorem jco(h:aQ p s≠0):fill p s=(jD,aQ p s):=by unfold fill;rw[aB h]
theorem jfo(h:aQ p s=0):fill p s=(Oq p s,0):=by unfold fill;rw[ay (λhn=>hn h)]
theorem YJ(h:aQ p s≠0):CW p s k n=(jD,aQ p s):=by unfold CW;rw[aB h]
theorem Qo(h:aQ p s=0)(h2:k<0\/(s.aF.length:Int)<=k):CW p s k n=(jD,4):=by
 unfold CW;rw[ay (λhn=>hn h),nU.2 (by omega)]
 rfl
theorem NI{i:Nat}(h:aQ p s=0)(hi:i<s.aF.length)(h3:n<0\/(bH s.aF i).n<n):CW p s i n=(jD,3):=by
 unfold CW;rw[ay (λhn=>hn h),dV.2 (by omega),ay (by simp),bZ,nU.2 h3]
 rfl
theorem VL{i:Nat}(h:aQ p s=0)(hi:i<s.aF.length)(h3:0<=n/\n<=(bH s.aF i).n)(h4:200<cell s.on (bH s.aF i).dst.toNat (bH s.aF i).dh.toNat+n):CW p s i n=(jD,2):=by
 unfold CW;rw[ay (λhn=>hn h),dV.2 (by omega),ay (by simp),bZ,dV.2 h3,ay (by simp),aB h4]
theorem jbp{i:Nat}(h:aQ p s=0)(f:Moves p s i n):CW p s i n=(AQ s i n,0):=by
 have hk:=f.hk;have h4:=f.full;unfold CW;rw[ay (λhn=>hn h),dV.2 (by omega),ay (by simp),bZ,dV.2 ⟨f.n0,f.n1⟩,ay (by simp),ay (by omega)]
end
section
variable {p:dA} {s:aJ}
def fb(p:dA)(s:aJ)(b:Nat):aJ:=(uT p true b).foldl (λt b=>(List.range p.aP.length).foldl (sW p b) t) s
theorem jop:fb p s p.bQ.length=Oq p s:=by unfold fb Oq;rw[JV]
def fg(p:dA)(s:aJ)(b g:Nat):aJ:=(List.range g).foldl (sW p b) (fb p s b)
theorem jas(b g:Nat):fg p s b (g+1)=sW p b (fg p s b g) g:=by
 unfold fg;rw[lJ,ng];rfl
theorem jjp{b:Nat}(h:(p.bin b).front=true):fb p s (b+1)=fg p s b p.aP.length:=by
 unfold fb fg;rw[EO h,ng];rfl
theorem jmx{b:Nat}(h:(p.bin b).front=false):fb p s (b+1)=fb p s b:=by
 unfold fb;rw[Gi (by unfold dA.bin at h;rw[h];decide)]
def ff(p:dA)(s:aJ)(b g f:Nat):aJ:=(uT p false f).foldl (λt f=>Ie p t b g f) (fg p s b g)
theorem jlp(b g:Nat):ff p s b g 0=fg p s b g:=rfl
theorem jcq{b g f:Nat}(h:(p.bin f).front=true):ff p s b g (f+1)=ff p s b g f:=by
 unfold ff;rw[Gi (by unfold dA.bin at h;rw[h];decide)]
theorem Y3{b g f:Nat}(h:(p.bin f).front=false):ff p s b g (f+1)=Ie p (ff p s b g f) b g f:=by
 unfold ff;rw[EO h,ng];rfl
theorem jjo{b g:Nat}(h:cell (fg p s b g).on b g+iq (fg p s b g) b g<(p.bin b).low):fg p s b (g+1)=ff p s b g p.bQ.length:=by
 rw[jas];unfold sW ff;rw[aB h,JV]
theorem joo{b g:Nat}(h:¬cell (fg p s b g).on b g+iq (fg p s b g) b g<(p.bin b).low):fg p s b (g+1)=fg p s b g:=by
 rw[jas];unfold sW;rw[ay h]
theorem QL{t:aJ}{b g f:Nat}(h:8<=t.aF.length):Ie p t b g f=t:=by unfold Ie;rw[aB h]
theorem WV{t:aJ}{b g f:Nat}(h:¬ 8<=t.aF.length)(h2:0<Hr p t b g f):Ie p t b g f=zC t ⟨g,f,b,Hr p t b g f⟩:=by unfold Ie;rw[ay h,aB h2];rfl
theorem WW{t:aJ}{b g f:Nat}(h:¬ 8<=t.aF.length)(h2:¬ 0<Hr p t b g f):Ie p t b g f=t:=by unfold Ie;rw[ay h,ay h2]
theorem Y4(h:aQ p s=0):∀b,b<=p.bQ.length->wO p s (fb p s b)
 |0,_=>Om h
 |b+1,hb=>by
  have ih:=Y4 h b (by omega)
  cases hf:(p.bin b).front
  ·rw[jmx hf];exact ih
  ·rw[jjp hf];exact QK ih (by omega) hf
theorem Tj(h:aQ p s=0){b:Nat}(hb:b<p.bQ.length)(hf:(p.bin b).front=true):∀g,g<=p.aP.length->wO p s (fg p s b g)
 |0,_=>Y4 h b (by omega)
 |g+1,hg=>by
  rw[jas];exact Oo (Tj h hb hf g (by omega)) hb (by omega) hf
theorem Y2(h:aQ p s=0){b g:Nat}(hb:b<p.bQ.length)(hf:(p.bin b).front=true)(hg:g<p.aP.length):∀f,f<=p.bQ.length->wO p s (ff p s b g f)
 |0,_=>Tj h hb hf g (by omega)
 |f+1,hl=>by
  have ih:=Y2 h hb hf hg f (by omega)
  cases Xu:(p.bin f).front
  ·rw[Y3 Xu];exact QJ ih hb hg (by omega) hf Xu
  ·rw[jcq Xu];exact ih
end
structure gX(α:Type) where
 is:α->Bool
 num:α->Int
 put:α->Int->α
 JO:∀x n,num (put x n)=n
 jhU:∀x n,is (put x n)=is x
 jkr:∀x n m,put (put x n) m=put x m
 ZB:∀x,put x (num x)=x
namespace gX
variable {α:Type} (C:gX α)
def part(x:α):Int:=if C.is x=true then C.num x else 0
def all(l:List α):Int:=(l.map C.part).sum
def less(v n:Int):Int:=min n (max v 0)
def cut:List α->Int->List α×Int
 |[],v=>([],v)
 |x::r,v=>if C.is x=true then(C.put x (C.num x - less (cut r v).2 (C.num x))::(cut r v).1,(cut r v).2 - less (cut r v).2 (C.num x))else(x::(cut r v).1,(cut r v).2)
def keep(x:α):Bool:=!decide (C.num x=0)
def rest(l:List α)(v:Int):List α:=(C.cut l v).1.filter C.keep
def dec:List α->List α
 |[]=>[]
 |x::r=>if r.any C.is=true then x::dec r else if C.is x=true then(if C.num x=1 then r else C.put x (C.num x - 1)::r)else x::r
def Pos(l:List α):Prop:=∀x∈l,1<=C.num x
variable {C}
theorem Pos.cons{x:α}{r:List α}(h:C.Pos (x::r)):1<=C.num x/\C.Pos r:=⟨h x (dS ..),λy hy=>h y (bP _ hy)⟩
theorem all_cons(x:α)(r:List α):C.all (x::r)=C.part x+C.all r:=by unfold all;rw[dn,iI]
theorem EG{l:List α}(h:∀x∈l,0<=C.num x):0<=C.all l:=by
 induction l with
 |nil=>exact iM _
 |cons x r ih=>
  have h1:=h x (dS ..);have h2:=ih λy hy=>h y (bP _ hy)
  rw[all_cons];unfold part;split<;>omega
theorem Pos.nonneg{l:List α}(h:C.Pos l):0<=C.all l:=EG λx hx=>by have:=h x hx;omega
theorem U3{l:List α}(h:C.Pos l):l.any C.is=decide (0<C.all l):=by
 induction l with
 |nil=>rfl
 |cons x r ih=>
  obtain⟨h1,h2⟩:=h.cons;have h3:=h2.nonneg;rw[zk,ih h2,all_cons];unfold part;cases hx:C.is x
  ·simp
  ·simp
   omega
theorem DZ{x:α}(hx:C.is x=true)(r:List α)(v:Int):C.cut (x::r) v=(C.put x (C.num x - less (C.cut r v).2 (C.num x))::(C.cut r v).1,(C.cut r v).2 - less (C.cut r v).2 (C.num x)):=by rw[cut,aB hx]
theorem DK{x:α}(hx:C.is x=false)(r:List α)(v:Int):C.cut (x::r) v=(x::(C.cut r v).1,(C.cut r v).2):=by rw[cut,ay (by rw[hx];simp)]
theorem Jr{l:List α}(h:∀x∈l,0<=C.num x)(v:Int):(C.cut l v).2=v - min (max v 0) (C.all l):=by
 induction l with
 |nil=>show v=v - min (max v 0) 0;omega
 |cons x r ih=>
  have h1:=h x (dS ..);have hr:=λy hy=>h y (bP _ hy)
  have h2:=ih hr;have h3:=EG hr;rw[all_cons];unfold part;cases hx:C.is x
  ·rw[DK hx];simp only[iE,uH];omega
  ·rw[DZ hx];simp only[uf];unfold less;omega
theorem QO(l:List α)(v:Int):(C.cut l v).1.length=l.length:=by
 induction l with
 |nil=>rfl
 |cons x r ih=>
  cases hx:C.is x
  ·rw[DK hx];simp[ih]
  ·rw[DZ hx];simp[ih]
theorem jlv{l:List α}(h:∀x∈l,0<=C.num x)(v:Int):C.all (C.cut l v).1=C.all l - min (max v 0) (C.all l):=by
 induction l with
 |nil=>show(0:Int)=0 - min (max v 0) 0;omega
 |cons x r ih=>
  have h1:=h x (dS ..);have hr:=λy hy=>h y (bP _ hy)
  have h2:=ih hr;have h3:=EG hr;have h4:=Jr hr v;rw[all_cons];cases hx:C.is x
  ·rw[DK hx];simp only;rw[all_cons];unfold part;rw[hx];simp only[iE,uH];omega
  ·rw[DZ hx];simp only;rw[all_cons];unfold part;rw[C.jhU,hx,C.JO];simp only[uf];unfold less;omega
theorem jfr{l:List α}(h:∀x∈l,0<=C.num x)(v:Int):∀y∈(C.cut l v).1,∃x∈l,y=C.put x (C.num y)/\0<=C.num y/\C.num y<=C.num x/\(C.is x=false->y=x):=by
 induction l with
 |nil=>intro y hy;simp[cut]at hy
 |cons x r ih=>
  have h1:=h x (dS ..);have hr:=λy hy=>h y (bP _ hy)
  intro y hy;cases hx:C.is x
  ·rw[DK hx]at hy
   rcases jM.1 hy with rfl|hy
   ·exact⟨y,dS ..,(C.ZB y).symm,h1,iM _,λ_=>rfl⟩
   ·obtain⟨z,hz,h2⟩:=ih hr y hy;exact⟨z,bP _ hz,h2⟩
  ·rw[DZ hx]at hy
   rcases jM.1 hy with rfl|hy
   ·refine⟨x,dS ..,?_,?_,?_,λh=>by rw[hx]at h;cases h⟩
    ·rw[C.JO]
    ·rw[C.JO];unfold less;omega
    ·rw[C.JO];unfold less;omega
   ·obtain⟨z,hz,h2⟩:=ih hr y hy;exact⟨z,bP _ hz,h2⟩
theorem Xc{l:List α}(h:∀x∈l,0<=C.num x){v:Int}(hv:v<=0):(C.cut l v).1=l:=by
 induction l with
 |nil=>rfl
 |cons x r ih=>
  have h1:=h x (dS ..);have hr:=λy hy=>h y (bP _ hy)
  have h2:=Jr hr v;have h3:=EG hr;cases hx:C.is x
  ·rw[DK hx,ih hr]
  ·rw[DZ hx,ih hr];simp only;have:less (C.cut r v).2 (C.num x)=0:=by unfold less;omega
   rw[this,qx,C.ZB]
theorem jlu{l:List α}(h:∀x∈l,0<=C.num x)(v:Int):(C.cut l v).1=(C.cut l (max v 0)).1:=by
 by_cases hv:v<=0
 ·rw[Xc h hv,Xc h (by omega)]
 ·rw[show max v 0=v by omega]
theorem RP{l:List α}(h:∀x∈l,0<=C.num x){v:Int}(hv:C.all l<=v):(C.cut l v).1=l.map λx=>if C.is x=true then C.put x 0 else x:=by
 induction l with
 |nil=>rfl
 |cons x r ih=>
  have h1:=h x (dS ..);have hr:=λy hy=>h y (bP _ hy)
  have h2:=Jr hr v;have h3:=EG hr;rw[all_cons]at hv
  unfold part at hv
  cases hx:C.is x
  ·rw[hx]at hv
   simp only[iE,uH]at hv
   rw[DK hx,ih hr (by omega),dn,hx]
   rfl
  ·rw[hx]at hv
   simp only[uf]at hv
   rw[DZ hx,ih hr (by omega),dn,hx]
   simp only[uf];have:less (C.cut r v).2 (C.num x)=C.num x:=by unfold less;omega
   rw[this,Int.sub_self]
theorem rest_none{l:List α}(h:C.Pos l){v:Int}(hv:v<=0):C.rest l v=l:=by
 unfold rest;rw[Xc (λx hx=>by have:=h x hx;omega) hv]
 refine oO.2 λx hx=>?_
 have:=h x hx;unfold keep;simp
 omega
theorem Vp{l:List α}(h:C.Pos l)(v:Int):C.rest l v=C.rest l (max v 0):=by
 unfold rest;rw[jlu (λx hx=>by have:=h x hx;omega)]
theorem ND{l:List α}(h:C.Pos l)(v:Int):C.Pos (C.rest l v):=λy hy=>by
 obtain⟨h1,h2⟩:=kH.1 hy;obtain⟨x,_,_,h3,_⟩:=jfr (λx hx=>by have:=h x hx;omega) v y h1
 unfold keep at h2
 simp at h2
 omega
theorem all_filter(l:List α):C.all (l.filter C.keep)=C.all l:=by
 induction l with
 |nil=>rfl
 |cons x r ih=>
  rw[lq,all_cons];split
  ·rw[all_cons,ih]
  ·rename_i hk
   unfold keep at hk
   simp at hk
   rw[ih];unfold part;rw[hk];split<;>omega
theorem GY{l:List α}(h:C.Pos l)(v:Int):C.all (C.rest l v)=C.all l - min (max v 0) (C.all l):=by
 unfold rest;rw[all_filter,jlv (λx hx=>by have:=h x hx;omega)]
theorem I7{l:List α}(h:C.Pos l)(v:Int):∀y∈C.rest l v,∃x∈l,y=C.put x (C.num y)/\1<=C.num y/\C.num y<=C.num x/\(C.is x=false->y=x):=λy hy=>by
 have h0:=ND h v y hy;obtain⟨x,h1,h2,_,h4⟩:=jfr (λx hx=>by have:=h x hx;omega) v y (kH.1 hy).1
 exact⟨x,h1,h2,h0,h4⟩
theorem Yz{l:List α}(h:C.Pos l){t:Int}(ht:0<=t)(hl:t+1<=C.all l):C.rest l (t+1)=C.dec (C.rest l t):=by
 induction l with
 |nil=>exact absurd hl (by show ¬t+1<=0;omega)
 |cons x r ih=>
  obtain⟨h1,hr⟩:=h.cons;have hr0:∀y∈r,0<=C.num y:=λy hy=>by have:=hr y hy;omega
  have a0:=Jr hr0 t;have a1:=Jr hr0 (t+1);have a2:=hr.nonneg;have hany:=U3 (ND hr t);rw[GY hr]at hany
  rw[all_cons]at hl
  unfold part at hl
  unfold rest at ih hany ⊢
  by_cases hA:t+1<=C.all r
  ·have jfk:((C.cut r t).1.filter C.keep).any C.is=true:=by rw[hany];simp;omega
   have ih':=ih hr hA;have hkx:C.keep x=true:=by unfold keep;simp;omega
   cases hx:C.is x
   ·rw[DK hx,DK hx];simp only;rw[jr hkx,jr hkx,dec,aB jfk,ih']
   ·rw[DZ hx,DZ hx];simp only;have e0:less (C.cut r t).2 (C.num x)=0:=by unfold less;omega
    have e1:less (C.cut r (t+1)).2 (C.num x)=0:=by unfold less;omega
    rw[e0,e1,qx,C.ZB,jr hkx,jr hkx,dec,aB jfk,ih']
  ·cases hx:C.is x
   ·rw[hx]at hl
    simp only[iE,uH]at hl
    omega
   ·rw[hx]at hl
    simp only[uf]at hl
    have jfk:((C.cut r t).1.filter C.keep).any C.is=false:=by rw[hany];simp;omega
    have e0:less (C.cut r t).2 (C.num x)=t - C.all r:=by unfold less;omega
    have e1:less (C.cut r (t+1)).2 (C.num x)=t+1 - C.all r:=by unfold less;omega
    have e2:(C.cut r (t+1)).1=(C.cut r t).1:=by rw[RP hr0 (by omega),RP hr0 (by omega)]
    rw[DZ hx,DZ hx];simp only;rw[e0,e1,e2];have hk0:C.keep (C.put x (C.num x - (t - C.all r)))=true:=by unfold keep;rw[C.JO];simp;omega
    rw[jr hk0,dec,ay (by rw[jfk];simp),C.jhU,aB hx,C.JO,C.jkr]
    by_cases hz:C.num x - (t - C.all r)=1
    ·rw[aB hz,lF (by unfold keep;rw[C.JO];simp;omega)]
    ·rw[ay hz,jr (by unfold keep;rw[C.JO];simp;omega)]
     congr 2
     omega
theorem jeu:∀ {l:List α} {k:Nat} (hk:k<l.length),C.is l[k]=true->(∀j (hj:j<l.length),k<j->C.is l[j]=false)->C.dec l=if C.num l[k]=1 then l.eraseIdx k else l.set k (C.put l[k] (C.num l[k] - 1))
 |x::r,0,_,h1,h2=>by
  have hany:r.any C.is=false:=by
   rw[qp];intro y hy;obtain⟨j,hj,rfl⟩:=aV hy;have:=h2 (j+1) (by simpa using hj) (by omega)
   simp at this
   simp[this]
  simp only[Ac]at h1 ⊢
  rw[dec,ay (by rw[hany];simp),aB h1]
  rfl
 |x::r,k+1,hk,h1,h2=>by
  have hk':k<r.length:=by simpa using hk
  simp only[rQ]at h1 ⊢
  have hany:r.any C.is=true:=lu.2 ⟨r[k],bU hk',h1⟩;rw[dec,aB hany,jeu hk' h1 (λj hj hkj=>by have:=h2 (j+1) (by simpa using hj) (by omega);simpa using this)]
  split
  ·rfl
  ·rfl
end gX
def Iq(b g:Int):gX Move:=⟨λx=>decide (x.src=b)&&decide (x.dh=g),(·.n),λx n=>{x with n:=n},λ_ _=>rfl,λ_ _=>rfl,λ_ _ _=>rfl,λ_=>rfl⟩
def yt(s:aJ)(b g:Int):gX dZ:=⟨λx=>decide (x.bin=b)&&decide ((s.aG x.aC.toNat x.aG.toNat).dh=g),(·.n),λx n=>{x with n:=n},λ_ _=>rfl,λ_ _=>rfl,λ_ _ _=>rfl,λ_=>rfl⟩
theorem Rj{b g:Int}{x:Move}:(Iq b g).is x=true↔x.src=b/\x.dh=g:=by simp[Iq]
theorem ES{s:aJ}{b g:Int}{x:dZ}:(yt s b g).is x=true↔x.bin=b/\(s.aG x.aC.toNat x.aG.toNat).dh=g:=by simp[yt]
theorem jkA(b g:Int)(x:Move):(Iq b g).part x=Aj b g x:=by
 unfold gX.part Aj;by_cases h:x.src=b/\x.dh=g
 ·rw[aB h,aB (Rj.2 h)];rfl
 ·rw[ay h,ay (λhh=>h (Rj.1 hh))]
theorem jk4(s:aJ)(b g:Int)(x:dZ):(yt s b g).part x=wX s b g x:=by
 unfold gX.part wX;by_cases h:x.bin=b/\(s.aG x.aC.toNat x.aG.toNat).dh=g
 ·rw[aB h,aB (ES.2 h)];rfl
 ·rw[ay h,ay (λhh=>h (ES.1 hh))]
theorem Gg(b g:Int)(l:List Move):(Iq b g).all l=lZ l b g:=by
 unfold gX.all lZ;congr 1
 exact oM λx _=>jkA b g x
theorem jd6(s:aJ)(b g:Int)(l:List dZ):(yt s b g).all l=(l.map (wX s b g)).sum:=by
 unfold gX.all;congr 1
 exact oM λx _=>jk4 s b g x
namespace gX
variable {α β:Type} {C:gX α}
theorem jfs(f:α->β)(hf:∀x n,f (C.put x n)=f x)(l:List α)(v:Int):(C.cut l v).1.map f=l.map f:=by
 induction l with
 |nil=>rfl
 |cons x r ih=>
  cases hx:C.is x
  ·rw[DK hx,dn,ih,dn]
  ·rw[DZ hx,dn,ih,dn,hf]
theorem jlt(F:α->Int)(hF:∀x n,C.is x=true->F (C.put x n)=F x)(l:List α)(v:Int):((C.cut l v).1.map F).sum=(l.map F).sum:=by
 induction l with
 |nil=>rfl
 |cons x r ih=>
  cases hx:C.is x
  ·rw[DK hx,dn,iI,ih,dn,iI]
  ·rw[DZ hx,dn,iI,ih,dn,iI,hF x _ hx]
theorem ja3(F:α->Int)(hF:∀x n,C.is x=true->F (C.put x n)=F x)(h0:∀x,C.num x=0->F x=0)(l:List α)(v:Int):((C.rest l v).map F).sum=(l.map F).sum:=by
 rw[<- jlt F hF l v];unfold rest;generalize (C.cut l v).1=m;induction m with
 |nil=>rfl
 |cons x r ih=>
  rw[lq];split
  ·rw[dn,iI,ih,dn,iI]
  ·rename_i hk
   have:C.num x=0:=by unfold keep at hk;simpa using hk
   rw[ih,dn,iI,h0 x this];omega
theorem jdk{l:List α}(h:C.Pos l)(v:Int){x:α}(hx:x∈l)(hi:C.is x=false):x∈C.rest l v:=by
 have hn:=h x hx;refine kH.2 ⟨?_,by unfold keep;simp;omega⟩
 clear hn;induction l with
 |nil=>simp at hx
 |cons y r ih=>
  rcases jM.1 hx with rfl|hx
  ·rw[DK hi];exact dS ..
  ·have:=ih h.cons.2 hx;cases hy:C.is y
   ·rw[DK hy];exact bP _ this
   ·rw[DZ hy];exact bP _ this
end gX
def yN(s:aJ)(b g v:Int):List Move:=(Iq b g).rest s.aF v
def pV(s:aJ)(b g v:Int):List dZ:=(yt s b g).rest s.aA (v - lZ s.aF b g)
def rH(s:aJ)(b g v:Int)(o k:Int):Int:=bW s.aA o k b - bW (pV s b g v) o k b
def zW(s:aJ)(b g v:Int):List Order:=s.ak.mapIdx λo x=>{x with aH:=x.aH.mapIdx λk y=>{y with dP:=y.dP+rH s b g v o k}}
def wM(s:aJ)(b g:Nat)(jq v:Int):aJ:=
 {on:=setCell s.on b g jq,ak:=zW s b g v,aA:=pV s b g v,aF:=yN s b g v,gY:=s.gY,O:=s.O,bg:=s.bg.set g (bI s.bg g+jq - cell s.on b g)}
section
variable {p:dA} {s:aJ} {b g:Nat} {jq v:Int}
theorem Kv(hs:o9 p s)(b g:Int):(Iq b g).Pos s.aF:=λx hx=>by
 obtain⟨i,hi,rfl⟩:=aV hx;have:=hs.bH hi;rw[pI hi]at this
 exact this.2.2.2.2.1
theorem HY(hs:o9 p s)(b g:Int):(yt s b g).Pos s.aA:=λx hx=>by
 have:=(nI.1 ((gG.1 hs.aA).1 x hx)).2.1;exact this
theorem Jt(hs:o9 p s)(b g v:Int):iD (pV s b g v)=true:=by
 obtain⟨h1,h2⟩:=gG.1 hs.aA;refine gG.2 ⟨λy hy=>?_,?_⟩
 ·obtain⟨x,hx,e,a,a',_⟩:=gX.I7 (HY hs b g) _ y hy;obtain⟨c1,c2,c3⟩:=nI.1 (h1 x hx);change 1<=y.n at a
  change y.n<=x.n at a'
  rw[e];exact nI.2 ⟨c1,a,by show y.n<=200;omega⟩
 ·unfold pV gX.rest JJ;refine tH _ ?_
  have e:=gX.jfs (C:=yt s b g) fP (λ_ _=>rfl) s.aA (v - lZ s.aF b g)
  have h3:(s.aA.map fP).Pairwise (·<·):=nY.2 h2
  rw[<- e]at h3
  exact nY.1 h3
theorem ML(hs:o9 p s)(b g v:Int)(o k b':Int):bW (pV s b g v) o k b'<=bW s.aA o k b'/\(¬(b'=b/\(s.aG o.toNat k.toNat).dh=g)->bW (pV s b g v) o k b'=bW s.aA o k b'):=by
 obtain⟨h1,h2⟩:=gG.1 hs.aA;obtain⟨h3,h4⟩:=gG.1 (Jt hs b g v);have n1:=KL hs.aA o k b';have n2:=KL (Jt hs b g v) o k b';have up:bW (pV s b g v) o k b'≠0->∃x∈s.aA,x.aC=o/\x.aG=k/\x.bin=b'/\bW (pV s b g v) o k b'<=x.n/\(¬(b'=b/\(s.aG o.toNat k.toNat).dh=g)->bW (pV s b g v) o k b'=x.n):=λhn=>by
  obtain⟨_,hm⟩:=Dh h3 h4 hn;obtain⟨x,hx,e,a,a',hnot⟩:=gX.I7 (HY hs b g) _ _ hm;have e':(⟨o,k,b',bW (pV s b g v) o k b'⟩:dZ)={x with n:=bW (pV s b g v) o k b'}:=e
  simp only[dZ.mk.injEq]at e'
  refine⟨x,hx,e'.1.symm,e'.2.1.symm,e'.2.2.1.symm,a',λhq=>?_⟩
  have hi:(yt s b g).is x=false:=by
   cases hi:(yt s b g).is x
   ·rfl
   ·have:=ES.1 hi;rw[<- e'.1,<- e'.2.1,<- e'.2.2.1]at this
    exact absurd this hq
  have:=hnot hi;rw[<- this]
 constructor
 ·by_cases hn:bW (pV s b g v) o k b'=0
  ·omega
  ·obtain⟨x,hx,e1,e2,e3,hle,_⟩:=up hn;have:=Df h1 h2 hx;rw[e1,e2,e3]at this
   omega
 ·intro hq;by_cases hn:bW (pV s b g v) o k b'=0
  ·by_cases hm:bW s.aA o k b'=0
   ·omega
   ·obtain⟨_,hmem⟩:=Dh h1 h2 hm;have hi:(yt s b g).is ⟨o,k,b',bW s.aA o k b'⟩=false:=by
     cases hi:(yt s b g).is ⟨o,k,b',bW s.aA o k b'⟩
     ·rfl
     ·exact absurd (ES.1 hi) hq
    have:=gX.jdk (HY hs b g) (v - lZ s.aF b g) hmem hi;have:=Df h3 h4 this;simp only at this
    omega
  ·obtain⟨x,hx,e1,e2,e3,_,he⟩:=up hn;have:=Df h1 h2 hx;rw[e1,e2,e3]at this
   rw[he hq,this]
theorem Dl(hs:o9 p s)(b:Nat)(g v:Int)(o k:Int):0<=rH s b g v o k/\rH s b g v o k<=bW s.aA o k b/\rH s b g v o k<=kept s.aA o k:=by
 have h1:=(ML hs b g v o k b).1;have h2:=KL (Jt hs b g v) o k b;have h3:=JW hs.aA o k b;unfold rH;omega
theorem jew(hs:o9 p s){b:Nat}(hb:b<p.bQ.length)(g v:Int)(o k:Int):kept (pV s b g v) o k=kept s.aA o k - rH s b g v o k:=by
 rw[Gj hs.aA,Gj (Jt hs b g v)];have:=EH (f:=λb=>bW s.aA o k b) (g:=λb'=>bW (pV s b g v) o k b') (n:=6) (i:=b) (d:=- rH s b g v o k) (by have:=hs.counts;omega) (λi _ hne=>(ML hs b g v o k i).2 (λh=>hne (by omega))) (by
  show bW (pV s b g v) o k b=bW s.aA o k b+ -rH s b g v o k;unfold rH;omega)
 rw[this];omega
theorem Pn(o:Nat)(ho:o<s.ak.length):(wM s b g jq v).aC o={s.aC o with aH:=(s.aC o).aH.mapIdx λk y=>{y with dP:=y.dP+rH s b g v o k}}:=by
 unfold aJ.aC aU wM zW;simp[List.getD,ho]
theorem uD:(wM s b g jq v).ak.length=s.ak.length:=by simp[wM,zW]
theorem rY(o:Nat)(ho:o<s.ak.length):((wM s b g jq v).aC o).aH.length=(s.aC o).aH.length:=by rw[Pn o ho];simp
theorem Ld(o:Nat)(ho:o<s.ak.length):((wM s b g jq v).aC o).dW=(s.aC o).dW:=by rw[Pn o ho]
theorem Ef{o k:Nat}(ho:o<s.ak.length)(hk:k<(s.aC o).aH.length):(wM s b g jq v).aG o k={s.aG o k with dP:=(s.aG o k).dP+rH s b g v o k}:=by
 unfold aJ.aG;rw[Pn o ho,qw (by simpa using hk),qw hk]
 simp
theorem Xd(hs:o9 p s)(b' g':Int):pK (wM s b g jq v) b' g'=((pV s b g v).map (wX s b' g')).sum:=by
 unfold pK;congr 1
 apply oM;intro x hx;obtain⟨y,hy,e,_,_,_⟩:=gX.I7 (HY hs b g) _ x hx;have e':x={y with n:=x.n}:=e
 obtain⟨i,hi,rfl⟩:=aV hy;have h2:=hs.yR hi;rw[iL hi]at h2
 unfold wX;rw[e'];simp only;rw[Ef (by omega) (by omega)]
theorem Oy(hs:o9 p s)(hv:0<=v)(hv2:v<=bound s b g):bound (wM s b g jq v) b g=bound s b g - v:=by
 have h1:lZ (wM s b g jq v).aF b g=_:=(Gg b g _).symm.trans (gX.GY (Kv hs b g) v);rw[Gg]at h1
 have h2:=Xd (b:=b) (g:=g) (jq:=jq) (v:=v) hs b g;have h3:=gX.GY (HY hs b g) (v - lZ s.aF b g);rw[jd6,jd6]at h3
 change((pV s b g v).map (wX s b g)).sum=pK s b g - min (max (v - lZ s.aF b g) 0) (pK s b g)at h3
 rw[h3]at h2
 have h4:=yB hs b g;have h5:=DF hs b g s.aA.length;rw[Gq]at h5
 unfold bound at hv2 ⊢
 rw[h1,h2];omega
theorem UC(hs:o9 p s){b' g':Int}(hne:¬(b'=b/\g'=g)):bound (wM s b g jq v) b' g'=bound s b' g':=by
 have h1:lZ (wM s b g jq v).aF b' g'=lZ s.aF b' g':=gX.ja3 (C:=Iq b g) (Aj b' g') (λx n hx=>by
  have:=Rj.1 hx;unfold Aj;rw[ay (by show ¬(x.src=b'/\x.dh=g');omega),ay (by omega)]) (λx hx=>by
  have hx':x.n=0:=hx;unfold Aj;rw[hx'];split<;>rfl) s.aF v
 have h2:=Xd (b:=b) (g:=g) (jq:=jq) (v:=v) hs b' g';have h3:((pV s b g v).map (wX s b' g')).sum=pK s b' g':=gX.ja3 (C:=yt s b g) (wX s b' g') (λx n hx=>by
  have:=ES.1 hx;unfold wX;rw[ay (by show ¬(x.bin=b'/\(s.aG x.aC.toNat x.aG.toNat).dh=g');omega),ay (by omega)]) (λx hx=>by
  have hx':x.n=0:=hx;unfold wX;rw[hx'];split<;>rfl) s.aA _
 unfold bound;rw[h1,h2,h3]
structure zY(p:dA)(s:aJ)(b g:Nat)(jq:Int):Prop where
 hb:b<p.bQ.length
 hg:g<p.aP.length
 s0:0<=jq
 s1:jq<=200
 f0: -1048576<=bI s.bg g+jq - cell s.on b g
 f1:bI s.bg g+jq - cell s.on b g<=1048576
def over(s:aJ)(b g:Nat)(jq:Int):Int:=max (bound s b g - jq) 0
theorem Le(hc:aQ p s=0)(f:zY p s b g jq):aQ p (wM s b g jq (over s b g jq))=0:=by
 obtain⟨h,Ky⟩:=oU.1 hc;have hs:=h.sane;have hb0:=EY hs b g;have hs0:=f.s0;have hov:0<=over s b g jq/\over s b g jq<=bound s b g/\bound s b g - over s b g jq<=jq:=by unfold over;omega
 generalize over s b g jq=v at hov
 have hbl:b<s.on.length:=by rw[hs.tY];exact f.hb
 have hgl:g<(fO s.on b).length:=by rw[hs.rowLen f.hb];exact f.hg
 have hfl:g<s.bg.length:=by rw[hs.bg.1];exact f.hg
 refine oU.2 ⟨lI.of (o9.of ?_ (by rw[uD];exact hs.qH) ?_ (λo ho=>?_) (λo k ho hk=>?_) (Jt hs b g v) (λx hx=>?_) (λx hx=>?_)
  (dR.1 hs.form).2.2.2.2.1 (dR.1 hs.form).2.2.2.2.2.1 (LK (dR.1 hs.form).2.2.2.2.2.2 hfl f.f0 f.f1)) (λg' hg'=>?_) (λb' g' hb' hg'=>?_) (λo k ho hk=>?_),λo ho=>?_⟩
 ·exact jZ.2 ⟨hs.plan,LM (jZ.1 hs.shelf).2 ⟨f.s0,f.s1⟩ f.hb f.hg⟩
 ·refine aY (aY (kY _ _) ?_) hs.vJ
  rw[gX.QO];exact au _
 ·rw[uD]at ho
  rw[rY o ho,Ld o ho];exact⟨hs.tN ho,hs.dW ho⟩
 ·rw[uD]at ho
  rw[rY o ho]at hk
  have hl:=hs.aG ho hk;have h1:=(h.AU ho hk).1;have h2:=Dl hs b g v o k;have h3:=(vK hs.aA o k).1;rw[Ef ho hk,rP];simp only;refine⟨hl.1,hl.2.1,hl.2.2.1,?_⟩
  split at h1<;>omega
 ·obtain⟨y,hy,e,_,_,_⟩:=gX.I7 (HY hs b g) _ x hx;have e':x={y with n:=x.n}:=e
  have h1:=nZ.1 (aX.1 (dR.1 hs.form).2.2.1 y hy);obtain⟨i,hi,rfl⟩:=aV hy;have h2:=hs.yR hi;rw[iL hi]at h2
  rw[e'];exact nZ.2 ⟨by rw[uD];exact h1.1,by rw[rY _ (by show(s.aA[i]).aC.toNat<_;omega)];exact h1.2.1,h1.2.2⟩
 ·obtain⟨y,hy,e,a,a',_⟩:=gX.I7 (Kv hs b g) _ x hx;have e':x={y with n:=x.n}:=e
  have h1:=Gh.1 (aX.1 (dR.1 hs.form).2.2.2.1 y hy);change 1<=x.n at a
  change x.n<=y.n at a'
  rw[e'];exact Gh.2 ⟨h1.1,h1.2.1,h1.2.2.1,h1.2.2.2.1,a,by show x.n<=200;omega⟩
 ·have h1:=h.sum hg';have e1:BU (wM s b g jq v).on g'=_:=Ea (n:=jq) hbl hgl g';have e2:bI (wM s b g jq v).bg g'=if g'=g then bI s.bg g+jq - cell s.on b g else bI s.bg g':=IJ hfl
  rw[e1,e2];show _=bI s.gY g' - bI s.O g'+_;split
  ·rename_i hq
   subst hq;omega
  ·omega
 ·have h1:=h.bnd hb' hg';have e1:cell (wM s b g jq v).on b' g'=if b'=b/\g'=g then jq else cell s.on b' g':=pR hbl hgl
  rw[e1];by_cases hq:b'=b/\g'=g
  ·obtain⟨rfl,rfl⟩:=hq;rw[aB ⟨rfl,rfl⟩,Oy hs hov.1 hov.2.1];exact hov.2.2
  ·rw[ay hq,UC hs (by omega)]
   exact h1
 ·rw[uD]at ho
  rw[rY o ho]at hk
  obtain⟨l1,l2⟩:=h.AU ho hk;have h2:=Dl hs b g v o k;have h3:=(vK hs.aA o k).1;have hl:=hs.aG ho hk;refine uz.2 ?_
  have e1:kept (wM s b g jq v).aA o k=kept s.aA o k - rH s b g v o k:=jew hs f.hb g v o k;rw[Ef ho hk,Ld o ho,e1];simp only;refine⟨?_,λhh=>l2 ⟨hh.1,by omega⟩⟩
  split at l1<;>rename_i hz
  ·rw[aB hz];omega
  ·rw[ay hz];omega
 ·rw[uD]at ho
  rw[Ld o ho];rintro⟨h1,h2⟩;refine Ky o ho ⟨h1,yE.2 λk hk=>?_⟩
  have h3:=yE.1 h2 k (by rw[rY o ho];exact hk)
  have h4:=Ef (b:=b) (g:=g) (jq:=jq) (v:=v) ho hk;unfold aJ.aG at h4
  rw[h4]at h3
  exact h3
end
structure JC(p:dA)(b:Nat)(S:Nat->Nat->Prop)(s t:aJ):Prop where
 right:lI p t
 on:t.on=s.on
 aF:t.aF=s.aF
 gY:t.gY=s.gY
 O:t.O=s.O
 bg:t.bg=s.bg
 ak:t.ak.length=s.ak.length
 dW:∀o,(t.aC o).dW=(s.aC o).dW
 aH:∀o,(t.aC o).aH.length=(s.aC o).aH.length
 aG:∀o k,(t.aG o k).dh=(s.aG o k).dh/\(t.aG o k).iw=(s.aG o k).iw/\(t.aG o k).oh=(s.aG o k).oh
 bnd:∀g:Int,bound t b g=bound s b g
 dP:∀o k,¬S o k->(t.aG o k).dP=(s.aG o k).dP
namespace JC
variable {p:dA} {b:Nat} {S S':Nat→Nat→Prop} {s t u:aJ}
theorem refl(h:lI p s):JC p b S s s:=⟨h,rfl,rfl,rfl,rfl,rfl,rfl,λ_=>rfl,λ_=>rfl,λ_ _=>⟨rfl,rfl,rfl⟩,λ_=>rfl,λ_ _ _=>rfl⟩
theorem mono(h:JC p b S s t)(hS:∀o k,S o k->S' o k):JC p b S' s t:={h with dP:=λo k hn=>h.dP o k λhs=>hn (hS o k hs)}
theorem trans(h:JC p b S s t)(h':JC p b S' t u):JC p b (λo k=>S o k\/S' o k) s u:=by
 refine⟨h'.right,h'.on.trans h.on,h'.aF.trans h.aF,h'.gY.trans h.gY,h'.O.trans h.O,h'.bg.trans h.bg,h'.ak.trans h.ak,λo=>(h'.dW o).trans (h.dW o),λo=>(h'.aH o).trans (h.aH o),λo k=>?_,λg=>(h'.bnd g).trans (h.bnd g),λo k hn=>?_⟩
 ·obtain⟨a1,a2,a3⟩:=h.aG o k;obtain⟨b1,b2,b3⟩:=h'.aG o k;exact⟨b1.trans a1,b2.trans a2,b3.trans a3⟩
 ·exact(h'.dP o k λhs=>hn (.inr hs)).trans (h.dP o k λhs=>hn (.inl hs))
theorem one{o k:Nat}{n:Int}(h:lI p s)(hm:n=0\/May s o k n):JC p b (λo' k'=>o'=o/\k'=k) s (qL p s o k n b).1:=by
 rcases hm with rfl|hm
 ·have:qL p s o k 0 b=(s,0):=JG (by omega)
  rw[this];exact refl h
 ·obtain⟨h1,_,_⟩:=Qi (but:=b) h hm;exact⟨h1.right,h1.on,h1.aF,h1.gY,h1.O,h1.bg,h1.ak,h1.dW,h1.aH,h1.aG,λg=>jfF h hm g,λo' k' hn=>by rw[h1.dP,ay hn,qx]⟩
theorem may(h:JC p b S s t){o k:Nat}{n:Int}(hn:¬S o k)(hm:n=0\/May s o k n):n=0\/May t o k n:=by
 rcases hm with hm|hm
 ·exact .inl hm
 ·exact .inr ⟨by rw[h.ak];exact hm.ho,by rw[h.aH];exact hm.hk,by rw[h.dW];exact hm.dW,hm.n0,by rw[h.dP o k hn];exact hm.dP⟩
theorem check(h:JC p b S s t)(hs:aQ p s=0):aQ p t=0:=by
 refine oU.2 ⟨h.right,λo ho=>?_⟩
 rw[h.ak]at ho
 have:=(oU.1 hs).2 o ho;rw[h.dW];rintro⟨h1,h2⟩;refine this ⟨h1,yE.2 λk hk=>?_⟩
 have h3:=yE.1 h2 k (by rw[h.aH];exact hk)
 have h4:=h.aG o k;unfold aJ.aG at h4
 rw[h4.2.1,h4.2.2]at h3
 exact h3
end JC
def yY(p:dA)(o:Nat)(b:Int)(n:Nat->Int):Nat->aJ->aJ
 |0,s=>s
 |k+1,s=>(qL p (yY p o b n k s) o k (n k) b).1
def Ba(p:dA)(b:Int)(n:Nat->Nat->Int):Nat->aJ->aJ
 |0,s=>s
 |o+1,s=>yY p o b (n o) ((Ba p b n o s).aC o).aH.length (Ba p b n o s)
def H8(p:dA)(s:aJ)(b g:Nat)(jq:Int):aJ:=
 Ba p b (λo k=>rH s b g (over s b g jq) o k) s.ak.length (wM s b g jq (over s b g jq))
def count(p:dA)(s:aJ)(b g jq:Int):aJ×Int:=
 if aQ p s≠0 then(jD,aQ p s)
 else if !(lV p b&&iK p g&&cZ jq 0 200)then(jD,3)
 else if !(cZ (bI s.bg g.toNat+jq - cell s.on b.toNat g.toNat) (-1048576) 1048576)then(jD,2)
 else(H8 p s b.toNat g.toNat jq,0)
section
variable {p:dA} {s:aJ} {b g:Nat} {jq v:Int} {n:Nat→Nat→Int}
theorem Js{o:Nat}{n:Nat->Int}(h:lI p s)(hn:∀k,k<(s.aC o).aH.length->n k=0\/May s o k (n k)):∀m,m<=(s.aC o).aH.length->JC p b (λo' k'=>o'=o/\k'<m) s (yY p o b n m s)
 |0,_=>JC.refl h
 |m+1,hm=>by
  have h1:=Js h hn m (by omega)
  have h2:=JC.one (b:=b) h1.right (h1.may (by omega) (hn m (by omega)))
  exact(h1.trans h2).mono λo' k' hs=>by omega
theorem Ep(h:lI p s)(hn:∀o k,o<s.ak.length->k<(s.aC o).aH.length->n o k=0\/May s o k (n o k)):∀m,m<=s.ak.length->JC p b (λo' _=>o'<m) s (Ba p b n m s)
 |0,_=>JC.refl h
 |m+1,hm=>by
  have h1:=Ep h hn m (by omega)
  have h2:=Js (b:=b) (o:=m) (n:=n m) h1.right (λk hk=>h1.may (by omega) (hn m k (by omega) (by rw[<- h1.aH];exact hk))) _ (au _)
  exact(h1.trans h2).mono λo' k' hs=>by omega
theorem Pm(h:lI p s){o k:Nat}(ho:o<s.ak.length)(hk:k<(s.aC o).aH.length):rH s b g v o k=0\/May (wM s b g jq v) o k (rH s b g v o k):=by
 have h1:=Dl h.sane b g v o k;by_cases hz:rH s b g v o k=0
 ·exact .inl hz
 ·have h2:=h.AU ho hk;have h3:=h.sane.aG ho hk;have h4:=h.sane.dW ho;have h5:(s.aC o).dW≠0:=λe=>by rw[aB e]at h2;omega
  have h6:(s.aC o).dW≠2:=λe=>h2.2 ⟨e,by omega⟩
  refine .inr ⟨by rw[uD];exact ho,by rw[rY o ho];exact hk,by rw[Ld o ho];omega,h1.1,?_⟩
  rw[Ef ho hk];simp only;omega
theorem MO(hc:aQ p s=0)(f:zY p s b g jq):JC p b (λo _=>o<s.ak.length) (wM s b g jq (over s b g jq)) (H8 p s b g jq):=by
 have h:=jf hc;have hcut:=jf (Le hc f);exact Ep hcut (λo k ho hk=>by
  rw[uD]at ho
  rw[rY o ho]at hk
  exact Pm h ho hk) _ (by rw[uD];exact au _)
theorem jcA(hc:aQ p s=0)(f:zY p s b g jq):aQ p (H8 p s b g jq)=0:=(MO hc f).check (Le hc f)
theorem jgz(hc:aQ p s=0)(f:zY p s b g jq):(H8 p s b g jq).ak.length=s.ak.length:=by rw[(MO hc f).ak,uD]
theorem jcy(hc:aQ p s=0)(f:zY p s b g jq){o:Nat}(ho:o<s.ak.length):((H8 p s b g jq).aC o).aH.length=(s.aC o).aH.length:=by rw[(MO hc f).aH,rY o ho]
theorem Xf(hs:o9 p s):pV s b g 0=s.aA:=gX.rest_none (HY hs b g) (by have:=yB hs b g;omega)
theorem jev(hs:o9 p s):yN s b g 0=s.aF:=gX.rest_none (Kv hs b g) (by omega)
theorem Y7(hs:o9 p s)(o k:Int):rH s b g 0 o k=0:=by
 unfold rH;rw[Xf hs];omega
theorem Xe(hs:o9 p s):zW s b g 0=s.ak:=by
 unfold zW;apply lW
 ·simp
 ·intro i h1 h2;rw[lN];have:((s.ak[i].aH.mapIdx λk y=>{y with dP:=y.dP+rH s b g 0 i k}):List Line)=s.ak[i].aH:=by
   apply lW
   ·simp
   ·intro j h3 h4;rw[lN,Y7 hs,jC]
  rw[this]
theorem Uh{b g:Int}(h:(count p s b g jq).2=0):aQ p s=0/\∃i j:Nat,b=i/\g=j/\zY p s i j jq/\(count p s b g jq).1=H8 p s i j jq:=by
 unfold count at h ⊢
 by_cases h1:aQ p s=0
 ·rw[ay (λhn=>hn h1)]at h ⊢
  by_cases h2:(lV p b&&iK p g&&cZ jq 0 200)=true
  ·rw[ay (by rw[h2];simp)]at h ⊢
   by_cases h3:cZ (bI s.bg g.toNat+jq - cell s.on b.toNat g.toNat) (-1048576) 1048576=true
   ·rw[ay (by rw[h3];simp)]
    simp only[bG]at h2
    obtain⟨i,rfl,hi⟩:=jaA h2.1.1;obtain⟨j,rfl,hj⟩:=WL h2.1.2;have h4:=dV.1 h2.2;have h5:=dV.1 h3;simp only[bZ]at h5 ⊢
    exact⟨h1,i,j,rfl,rfl,⟨hi,hj,h4.1,h4.2,h5.1,h5.2⟩,rfl⟩
   ·rw[aB (by simpa using h3)]at h
    simp at h
  ·rw[nM]at h2
   rw[h2,aB (by rfl)]at h
   simp at h
 ·rw[aB h1]at h
  exact absurd h h1
end
section
variable {p:dA} {s:aJ} {b g n:Int}
theorem Za(h:aQ p s≠0):count p s b g n=(jD,aQ p s):=by unfold count;rw[aB h]
theorem EW(h:aQ p s=0)(h2:(lV p b&&iK p g&&cZ n 0 200)=false):count p s b g n=(jD,3):=by
 unfold count;rw[ay (λhn=>hn h),h2]
 rfl
theorem QS{i j:Nat}(h:aQ p s=0)(hi:i<p.bQ.length)(hj:j<p.aP.length)(hn:0<=n/\n<=200)(h2:bI s.bg j+n - cell s.on i j< -1048576\/1048576<bI s.bg j+n - cell s.on i j):count p s i j n=(jD,2):=by
 have h3:(lV p (i:Int)&&iK p (j:Int)&&cZ n 0 200)=true:=by rw[yT.2 (by omega),vN.2 (by omega),dV.2 hn];rfl
 unfold count;rw[ay (λhn=>hn h),h3,ay (by simp)]
 simp only[bZ];rw[nU.2 h2];rfl
theorem jcx{i j:Nat}(h:aQ p s=0)(f:zY p s i j n):count p s i j n=(H8 p s i j n,0):=by
 have h1:=f.hb;have h2:=f.hg;have h3:(lV p (i:Int)&&iK p (j:Int)&&cZ n 0 200)=true:=by rw[yT.2 (by omega),vN.2 (by omega),dV.2 ⟨f.s0,f.s1⟩];rfl
 unfold count;rw[ay (λhn=>hn h),h3,ay (by simp)]
 simp only[bZ];rw[dV.2 ⟨f.f0,f.f1⟩];rfl
end
end Wh
