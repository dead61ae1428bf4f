/- Texts of the claim, joined. -/
import Derived.Test.YtfhfkijmebhgmaaGreatK02
set_option maxHeartbeats 20000000
set_option maxRecDepth 100000
namespace Wh
structure Ht(p:dA)(S:Nat->Nat->Prop)(s t:aJ):Prop where
 right:lI p t
 on:t.on=s.on
 aF:t.aF=s.aF
 gY:t.gY=s.gY
 O:t.O=s.O
 bg:t.bg=s.bg
 ak:t.ak.length=s.ak.length
 dW:∀o,(t.aC o).dW=(s.aC o).dW
 aH:∀o,(t.aC o).aH.length=(s.aC o).aH.length
 aG:∀o k,(t.aG o k).dh=(s.aG o k).dh/\(t.aG o k).iw=(s.aG o k).iw/\(t.aG o k).oh=(s.aG o k).oh
 less:∀b g:Int,lU t b g<=lU s b g
 dP:∀o k,¬S o k->(t.aG o k).dP=(s.aG o k).dP
 kept:∀o k:Nat,¬S o k->Wh.kept t.aA o k=Wh.kept s.aA o k
 done:∀o k,S o k->o<s.ak.length->k<(s.aC o).aH.length->(s.aC o).dW=1->0<(t.aG o k).dP->∀b,b<p.bQ.length->lU t b (s.aG o k).dh=0
 none:∀o k,S o k->o<s.ak.length->k<(s.aC o).aH.length->(∀b:Nat,b<p.bQ.length->lU s b (s.aG o k).dh=0)->Wh.kept t.aA o k=Wh.kept s.aA o k
theorem VT{p:dA}{s:aJ}(h:lI p s){o k b:Nat}(ho:o<s.ak.length)(hk:k<(s.aC o).aH.length)(hb:b<p.bQ.length):0<=lU s b (s.aG o k).dh:=by
 have h1:=(h.sane.aG ho hk).1;obtain⟨g,hg⟩:∃g:Nat,(s.aG o k).dh=g:=⟨(s.aG o k).dh.toNat,by omega⟩
 rw[hg]at h1 ⊢
 exact(h.OL hb (by omega)).1
namespace Ht
variable {p:dA} {S S':Nat→Nat→Prop} {s t u:aJ}
theorem same(h:lI p s)(hS:∀o k,S o k->o<s.ak.length->k<(s.aC o).aH.length->(s.aC o).dW≠1):Ht p S s s:=
 ⟨h,rfl,rfl,rfl,rfl,rfl,rfl,λ_=>rfl,λ_=>rfl,λ_ _=>⟨rfl,rfl,rfl⟩,λ_ _=>iM _,λ_ _ _=>rfl,λ_ _ _=>rfl,λo k hs ho hk hkd=>absurd hkd (hS o k hs ho hk),λ_ _ _ _ _ _=>rfl⟩
theorem mono(h:Ht p S s t)(h1:∀o k,S o k->S' o k)(h2:∀o k,o<s.ak.length->k<(s.aC o).aH.length->S' o k->S o k):Ht p S' s t:=
 {h with dP:=λo k hn=>h.dP o k λhs=>hn (h1 o k hs),kept:=λo k hn=>h.kept o k λhs=>hn (h1 o k hs),done:=λo k hs ho hk=>h.done o k (h2 o k ho hk hs) ho hk,none:=λo k hs ho hk=>h.none o k (h2 o k ho hk hs) ho hk}
theorem trans(h:Ht p S s t)(h':Ht p S' t u)(hd:∀o k,S o k->S' o k->False):Ht p (λo k=>S o k\/S' o k) s u:=by
 refine⟨h'.right,h'.on.trans h.on,h'.aF.trans h.aF,h'.gY.trans h.gY,h'.O.trans h.O,h'.bg.trans h.bg,h'.ak.trans h.ak,λo=>(h'.dW o).trans (h.dW o),λo=>(h'.aH o).trans (h.aH o),λo k=>?_,λb g=>xq (h'.less b g) (h.less b g),λo k hn=>?_,λo k hn=>?_,λo k hs ho hk hkd hb b hbn=>?_,λo k hs ho hk hz=>?_⟩
 ·obtain⟨a1,a2,a3⟩:=h.aG o k;obtain⟨b1,b2,b3⟩:=h'.aG o k;exact⟨b1.trans a1,b2.trans a2,b3.trans a3⟩
 ·exact(h'.dP o k λhs=>hn (.inr hs)).trans (h.dP o k λhs=>hn (.inl hs))
 ·exact(h'.kept o k λhs=>hn (.inr hs)).trans (h.kept o k λhs=>hn (.inl hs))
 ·have ho':o<t.ak.length:=by rw[h.ak];exact ho
  have hk':k<(t.aC o).aH.length:=by rw[h.aH];exact hk
  rcases hs with hs|hs
  ·rw[h'.dP o k (hd o k hs)]at hb
   have h1:=h.done o k hs ho hk hkd hb b hbn;have h2:=h'.less b (s.aG o k).dh;have h3:=VT h'.right (o:=o) (k:=k) (b:=b) (by rw[h'.ak];exact ho') (by rw[h'.aH];exact hk') hbn
   rw[(h'.aG o k).1,(h.aG o k).1]at h3
   omega
  ·have:=h'.done o k hs ho' hk' (by rw[h.dW];exact hkd) hb b hbn
   rwa [(h.aG o k).1]at this
 ·have ho':o<t.ak.length:=by rw[h.ak];exact ho
  have hk':k<(t.aC o).aH.length:=by rw[h.aH];exact hk
  rcases hs with hs|hs
  ·exact(h'.kept o k (hd o k hs)).trans (h.none o k hs ho hk hz)
  ·rw[h'.none o k hs ho' hk' (λb hbn=>by
    have h1:=hz b hbn;have h2:=h.less b (s.aG o k).dh;have h3:=VT h.right ho' hk' hbn;rw[(h.aG o k).1]at h3 ⊢
    omega)]
   exact h.kept o k λhs'=>hd o k hs' hs
end Ht
theorem Nw{o k:Nat}{but:Int}:∀ {bs:List Nat} {s:aJ} {n:Int},(∀b∈bs,lU s b (s.aG o k).dh=0)->uo o k but bs s n=(s,n)
 |[],_,_,_=>rfl
 |b::r,s,n,h=>by
  have:=h b (dS ..);rw[zn (.inr (by omega)),Nw λx hx=>h x (bP _ hx)]
theorem Yw{p:dA}{s:aJ}(h:lI p s){o k:Nat}(ho:o<s.ak.length)(hk:k<(s.aC o).aH.length)(hkd:(s.aC o).dW=1):May s o k (s.aG o k).dP:=
 ⟨ho,hk,hkd,(h.sane.aG ho hk).2.2.2.1,iM _⟩
theorem XF{p:dA}{s:aJ}{o k:Nat}(h:lI p s)(ho:o<s.ak.length)(hk:k<(s.aC o).aH.length)(hkd:(s.aC o).dW=1):Ht p (λo' k'=>o'=o/\k'=k) s (OU p s o k):=by
 have hm:=Yw h ho hk hkd;obtain⟨h1,h2,h3⟩:=Qi (but:=-1) h hm;change Held p s (OU p s o k) o k _ at h1
 have hbk:((OU p s o k).aG o k).dP=(qL p s o k (s.aG o k).dP (-1)).2:=by
  rw[h1.dP,aB ⟨rfl,rfl⟩];omega
 refine⟨h1.right,h1.on,h1.aF,h1.gY,h1.O,h1.bg,h1.ak,h1.dW,h1.aH,h1.aG,h1.jjP,λo' k' hn=>?_,λo' k' hn=>?_,λo' k' hs ho' hk' SQ hb b hbn=>?_,λo' k' hs ho' hk' hz=>?_⟩
 ·rw[h1.dP,ay hn,qx]
 ·rw[h1.kept,ay (by omega),jC]
 ·obtain⟨rfl,rfl⟩:=hs;exact Ve (but:=-1) h hm (by rw[<- hbk];exact hb) hbn (by omega)
 ·obtain⟨rfl,rfl⟩:=hs;have:OU p s o' k'=s:=by
   unfold OU qL;rw[Nw (λb hb=>hz b (I4 p b hb))]
  rw[this]
theorem Hw{p:dA}{s:aJ}{o:Nat}(h:lI p s)(ho:o<s.ak.length)(hkd:(s.aC o).dW=1):∀n,n<=(s.aC o).aH.length->Ht p (λo' k'=>o'=o/\k'<n) s (IB p o n s)
 |0,_=>(Ht.same (S:=λo' k'=>o'=o/\k'<0) h λ_ _ hs=>by omega)
 |n+1,hn=>by
  have h1:=Hw h ho hkd n (by omega)
  have h2:=XF h1.right (o:=o) (k:=n) (by rw[h1.ak];exact ho) (by rw[h1.aH];omega) (by rw[h1.dW];exact hkd)
  exact(h1.trans h2 (λo' k' hs hs'=>by omega)).mono (λo' k' hs=>by omega) (λo' k' _ _ hs=>by omega)
theorem Us{p:dA}{s:aJ}{o:Nat}(h:lI p s)(ho:o<s.ak.length):Ht p (λo' _=>o'=o) s (F7 p s o):=by
 unfold F7;split
 ·rename_i hkd
  exact(Hw h ho hkd _ (au _)).mono (λo' k' hs=>hs.1) (λo' k' _ hk hs=>⟨hs,by rw[hs]at hk;exact hk⟩)
 ·rename_i hkd
  exact Ht.same h λo' k' hs _ _=>by rw[hs];exact hkd
theorem Dt{p:dA}{s:aJ}(h:lI p s):∀n,n<=s.ak.length->Ht p (λo _=>o<n) s (jV p n s)
 |0,_=>(Ht.same (S:=λo _=>o<0) h λ_ _ hs=>by omega)
 |n+1,hn=>by
  have h1:=Dt h n (by omega)
  have h2:=Us h1.right (o:=n) (by rw[h1.ak];omega)
  exact(h1.trans h2 (λo' k' hs hs'=>by omega)).mono (λo' k' hs=>by omega) (λo' k' _ _ hs=>by omega)
def mV(s:aJ):aJ:={s with ak:=s.ak.map KY}
theorem Ol(s:aJ)(o:Nat)(ho:o<s.ak.length):(mV s).aC o=KY (s.aC o):=by
 unfold aJ.aC aU mV;simp[ho]
theorem Gu(s:aJ){o k:Nat}(ho:o<s.ak.length)(hk:k<(s.aC o).aH.length):(mV s).aG o k=if(s.aC o).dW=0 then {s.aG o k with dP:=(s.aG o k).iw}else s.aG o k:=by
 unfold aJ.aG;rw[Ol s o ho];unfold KY;split
 ·rw[qw (by simpa using hk),qw hk]
  simp
 ·rfl
theorem Ap(s:aJ){o:Nat}(ho:o<s.ak.length):((mV s).aC o).aH.length=(s.aC o).aH.length:=by
 rw[Ol s o ho];unfold KY;split
 ·simp
 ·rfl
theorem QH(s:aJ){o:Nat}(ho:o<s.ak.length):((mV s).aC o).dW=if(s.aC o).dW=0 then 1 else(s.aC o).dW:=by
 rw[Ol s o ho];unfold KY;split<;>rfl
theorem xM(s:aJ):(mV s).ak.length=s.ak.length:=by simp[mV]
theorem J3{p:dA}{s:aJ}(h:aQ p s=0):aQ p (mV s)=0:=by
 obtain⟨hr,Ky⟩:=oU.1 h;have hs:=hr.sane;have hbound:∀b g:Int,bound (mV s) b g=bound s b g:=λb g=>by
  unfold bound;have:pK (mV s) b g=pK s b g:=Qy (s:=s) (t:=mV s) rfl (λx hx=>by
   obtain⟨i,hi,rfl⟩:=aV hx;have:=hs.yR hi;rw[iL hi]at this
   rw[Gu s (by omega) (by omega)]
   split<;>rfl) b g
  rw[this];rfl
 refine oU.2 ⟨lI.of (o9.of hs.shelf (by rw[xM];exact hs.qH) hs.vJ (λo ho=>?_) (λo k ho hk=>?_) hs.aA (λx hx=>?_) (λx hx=>aX.1 (dR.1 hs.form).2.2.2.1 x hx)
  (dR.1 hs.form).2.2.2.2.1 (dR.1 hs.form).2.2.2.2.2.1 (dR.1 hs.form).2.2.2.2.2.2) (λg hg=>hr.sum hg) (λb g hb hg=>by rw[hbound];exact hr.bnd hb hg) (λo k ho hk=>?_),λo ho hh=>?_⟩
 ·rw[xM]at ho
  rw[Ap s ho,QH s ho];refine⟨hs.tN ho,?_⟩
  have:=hs.dW ho;split<;>omega
 ·rw[xM]at ho
  rw[Ap s ho]at hk
  rw[Gu s ho hk];have h1:=hs.aG ho hk;split
  ·exact rP.2 ⟨h1.1,h1.2.1,h1.2.2.1,by simp only;omega⟩
  ·exact rP.2 h1
 ·have h1:=nZ.1 (aX.1 (dR.1 hs.form).2.2.1 x hx);have hx':x∈s.aA:=hx;obtain⟨i,hi,rfl⟩:=aV hx';have:=(hs.yR hi).1;rw[iL hi]at this
  refine nZ.2 ⟨by rw[xM];exact h1.1,?_,h1.2.2⟩
  rw[Ap s (by omega)]
  exact h1.2.1
 ·rw[xM]at ho
  rw[Ap s ho]at hk
  have h1:=hr.AU ho hk;have h2:=hs.aG ho hk;have h3:=(vK hs.aA o k).1;refine uz.2 ?_
  rw[Gu s ho hk,QH s ho];by_cases hz:(s.aC o).dW=0
  ·rw[aB hz,aB hz,ay (by omega)]
   rw[aB hz]at h1
   have e:kept (mV s).aA o k=kept s.aA o k:=rfl;rw[e];simp only;omega
  ·rw[ay hz,ay hz];exact h1
 ·rw[xM]at ho
  rw[QH s ho,yE,Ap s ho]at hh
  obtain⟨h1,h2⟩:=hh;by_cases hz:(s.aC o).dW=0
  ·have hl:=hs.tN ho;have h3:=h2 0 (by omega)
   have h4:=Gu s (o:=o) (k:=0) ho (by omega)
   rw[aB hz]at h4
   have h5:gK ((mV s).aC o).aH 0=(mV s).aG o 0:=rfl;rw[h5,h4]at h3
   have h6:=(hr.AU (o:=o) (k:=0) ho (by omega)).1
   rw[aB hz]at h6
   have h7:=hs.aG (o:=o) (k:=0) ho (by omega)
   have h8:=(vK hs.aA o (0:Nat)).1;simp only at h3
   omega
  ·rw[ay hz]at h1
   refine Ky o ho ⟨h1,yE.2 λk hk=>?_⟩
   have h3:=h2 k hk;have h4:=Gu s (o:=o) (k:=k) ho hk;rw[ay hz]at h4
   have h5:gK ((mV s).aC o).aH k=(mV s).aG o k:=rfl;rw[h5,h4]at h3
   exact h3
theorem GI{p:dA}{s:aJ}(h:aQ p s=0):Ht p (λo _=>o<s.ak.length) (mV s) (Ec p s):=
 Dt (jf (J3 h)) _ (by rw[xM];exact au _)
theorem jaX{p:dA}{S:Nat->Nat->Prop}{s t:aJ}(h:Ht p S s t)(hs:aQ p s=0):aQ p t=0:=by
 refine oU.2 ⟨h.right,λo ho=>?_⟩
 rw[h.ak]at ho
 have:=(oU.1 hs).2 o ho;rw[h.dW];rintro⟨h1,h2⟩;refine this ⟨h1,yE.2 λk hk=>?_⟩
 have h3:=yE.1 h2 k (by rw[h.aH];exact hk)
 have h4:=h.aG o k;unfold aJ.aG at h4
 rw[h4.2.1,h4.2.2]at h3
 exact h3
theorem XL{p:dA}{s:aJ}(h:aQ p s=0):aQ p (Ec p s)=0:=jaX (GI h) (J3 h)
theorem ja5{p:dA}{s:aJ}(h:aQ p s=0):(Ec p s).ak.length=s.ak.length:=by rw[(GI h).ak,xM]
theorem XK{p:dA}{s:aJ}(h:aQ p s=0){o:Nat}(ho:o<s.ak.length):((Ec p s).aC o).aH.length=(s.aC o).aH.length:=by rw[(GI h).aH,Ap s ho]
theorem Wp{l:List dZ}(P:dZ->Bool)(h:iD l=true):iD (l.filter P)=true:=by
 obtain⟨h1,h2⟩:=gG.1 h;exact gG.2 ⟨λx hx=>h1 x (kH.1 hx).1,h2.sublist List.filter_sublist⟩
theorem jbD(l:List dZ)(o:Nat)(o' k':Int):kept (l.filter λh=>decide (h.aC≠o)) o' k'=if o'=(o:Int)then 0 else kept l o' k':=by
 unfold kept;rw[List.filter_filter];split
 ·rename_i e
  rw[J5]
  ·rfl
  ·intro x _;unfold Bz;subst e;by_cases hx:x.aC=(o:Int)<;>simp[hx]
 ·rename_i e
  congr 2
  apply List.filter_congr;intro x _;unfold Bz;by_cases hx:x.aC=o'
  ·have:x.aC≠(o:Int):=by rw[hx];exact e
   simp[hx,e]
  ·simp[hx]
theorem Vh{f:dZ->Int}(P:dZ->Bool):∀ {l:List dZ},(∀x∈l,0<=f x)->0<=((l.filter P).map f).sum/\((l.filter P).map f).sum<=(l.map f).sum
 |[],_=>by simp
 |x::l,h=>by
  have h1:=Vh P (l:=l) λy hy=>h y (bP _ hy)
  have h2:=h x (dS ..);rw[lq];split
  ·rw[dn,iI,dn,iI];omega
  ·rw[dn,iI];omega
theorem FK{s:aJ}{o:Nat}(ho:o<s.ak.length)(o':Nat):(xE s o).aC o'=if o'=o then⟨2,(s.aC o).aH.map λx=>{x with dP:=x.iw - x.oh}⟩else s.aC o':=EN ho _ _
theorem EF(s:aJ)(o:Nat):(xE s o).ak.length=s.ak.length:=by simp[xE]
theorem FM{s:aJ}{o:Nat}(ho:o<s.ak.length)(o':Nat):((xE s o).aC o').aH.length=(s.aC o').aH.length:=by
 rw[FK ho];split
 ·rename_i e
  subst e;simp
 ·rfl
theorem J9{s:aJ}{o:Nat}(ho:o<s.ak.length){o' k':Nat}(hk:k'<(s.aC o').aH.length):(xE s o).aG o' k'=if o'=o then {s.aG o' k' with dP:=(s.aG o' k').iw - (s.aG o' k').oh}else s.aG o' k':=by
 unfold aJ.aG;rw[FK ho];split
 ·rename_i e
  subst e;rw[qw (by simpa using hk),qw hk]
  simp
 ·rfl
theorem jay{p:dA}{s:aJ}{o:Nat}(h:aQ p s=0)(ho:o<s.ak.length):aQ p (xE s o)=0:=by
 obtain⟨hr,Ky⟩:=oU.1 h;have hs:=hr.sane;have hbound:∀b g:Int,bound (xE s o) b g<=bound s b g:=λb g=>by
  have e:pK (xE s o) b g=pK {s with aA:=s.aA.filter λh=>decide (h.aC≠o)} b g:=Qy (s:={s with aA:=s.aA.filter λh=>decide (h.aC≠o)}) (t:=xE s o) rfl (λx hx=>by
   have hx':=(kH.1 hx).1;obtain⟨i,hi,rfl⟩:=aV hx';have:=hs.yR hi;rw[iL hi]at this
   rw[J9 ho (by omega)]
   split<;>rfl) b g
  have e2:pK {s with aA:=s.aA.filter λh=>decide (h.aC≠o)} b g<=pK s b g:=(Vh (f:=wX s b g) _ λx hx=>by
   have:=(nI.1 ((gG.1 hs.aA).1 x hx)).2;unfold wX;split<;>omega).2
  unfold bound;rw[e];have:(xE s o).aF=s.aF:=rfl;rw[this];omega
 refine oU.2 ⟨lI.of (o9.of hs.shelf (by rw[EF];exact hs.qH) hs.vJ (λo' ho'=>?_) (λo' k ho' hk=>?_) (Wp _ hs.aA) (λx hx=>?_) (λx hx=>aX.1 (dR.1 hs.form).2.2.2.1 x hx)
  (dR.1 hs.form).2.2.2.2.1 (dR.1 hs.form).2.2.2.2.2.1 (dR.1 hs.form).2.2.2.2.2.2) (λg hg=>hr.sum hg) (λb g hb hg=>xq (hbound b g) (hr.bnd hb hg)) (λo' k ho' hk=>?_),λo' ho' hh=>?_⟩
 ·rw[EF]at ho'
  rw[FM ho];refine⟨hs.tN ho',?_⟩
  rw[FK ho];split
  ·simp only;omega
  ·exact hs.dW ho'
 ·rw[EF]at ho'
  rw[FM ho]at hk
  rw[J9 ho hk];have h1:=hs.aG ho' hk;split
  ·exact rP.2 ⟨h1.1,h1.2.1,h1.2.2.1,by simp only;omega⟩
  ·exact rP.2 h1
 ·have hx':=(kH.1 hx).1;have h1:=nZ.1 (aX.1 (dR.1 hs.form).2.2.1 x hx');refine nZ.2 ⟨by rw[EF];exact h1.1,?_,h1.2.2⟩
  rw[FM ho];exact h1.2.1
 ·rw[EF]at ho'
  rw[FM ho]at hk
  have h1:=hr.AU ho' hk;have h2:=hs.aG ho' hk;have e:kept (xE s o).aA o' k=if(o':Int)=(o:Int)then 0 else kept s.aA o' k:=jbD _ _ _ _
  refine uz.2 ?_
  rw[J9 ho hk,FK ho,e];by_cases he:o'=o
  ·subst he;rw[aB rfl,aB rfl,aB rfl];simp only;rw[ay (by omega)]
   omega
  ·rw[ay he,ay he,ay (by omega)]
   exact h1
 ·rw[EF]at ho'
  rw[FK ho]at hh
  split at hh
  ·exact absurd hh.1 (by simp only;omega)
  ·exact Ky o' ho' hh
theorem RV{p:dA}{s:aJ}{o:Int}(h:(zJ p s o).2=0):aQ p s=0/\∃i:Nat,o=i/\i<s.ak.length/\(s.aC i).dW≠2/\(zJ p s o).1=xE s i:=by
 unfold zJ at h ⊢
 by_cases h1:aQ p s=0
 ·rw[ay (λhn=>hn h1)]at h ⊢
  cases h2:cZ o 0 (s.ak.length - 1)
  ·rw[h2,aB (by rfl)]at h
   simp at h
  ·rw[h2,ay (by simp)]at h
   have h3:=dV.1 h2;by_cases h4:(s.aC o.toNat).dW=2
   ·rw[aB h4]at h
    simp at h
   ·refine⟨h1,o.toNat,by omega,by omega,h4,?_⟩
    rw[ay (by simp),ay h4]
 ·rw[aB h1]at h
  exact absurd h h1
theorem PN{p:dA}{s:aJ}(h:(zq p s).2=0):aQ p s=0/\(zq p s).1=Ec p s:=by
 unfold zq at h ⊢
 by_cases h1:aQ p s=0
 ·rw[ay (λhn=>hn h1)]
  exact⟨h1,rfl⟩
 ·rw[aB h1]at h
  exact absurd h h1
def fl(o:Order)(k:Nat):Order:=⟨1,(o.aH.take k).map (λx=>{x with dP:=x.iw})++o.aH.drop k⟩
def tX(s:aJ)(n:Nat):aJ:={s with ak:=(s.ak.take n).map KY++s.ak.drop n}
def Dk(s:aJ)(n k:Nat):aJ:={s with ak:=(tX s n).ak.set n (fl (s.aC n) k)}
section
variable {s:aJ} {n k:Nat}
theorem TY(s:aJ):tX s 0=s:=by simp[tX]
theorem WR(s:aJ):tX s s.ak.length=mV s:=by simp[tX,mV]
theorem Ez(s:aJ)(n:Nat):(tX s n).ak.length=s.ak.length:=by
 unfold tX;simp only[aZ,fU,bT,fQ];omega
theorem Ir(hn:n<s.ak.length):(tX s n).aC n=s.aC n:=by
 unfold aJ.aC aU tX;simp only[List.getD];rw[jX (by simp;omega)]
 simp[jS (jh hn)]
theorem Ua(hn:n<s.ak.length):tX s (n+1)={s with ak:=(tX s n).ak.set n (KY (s.aC n))}:=by
 have e:s.aC n=s.ak[n]:=uy hn;unfold tX;rw[e,dO hn,fJ,eH];congr 1
 have h1:((s.ak.take n).map KY).length=n:=by simp;omega
 rw[mG _ _ (by omega),h1,rM,jE hn]
 rfl
theorem jcj(hn:n<s.ak.length):(tX s n).ak.set n (s.aC n)=(tX s n).ak:=by
 rw[<- Ir hn];unfold aJ.aC;rw[uy (by rw[Ez];exact hn),List.set_getElem_self]
theorem Ub(hn:n<s.ak.length)(hk:(s.aC n).dW≠0):tX s (n+1)=tX s n:=by
 rw[Ua hn];have:KY (s.aC n)=s.aC n:=by unfold KY;rw[ay hk]
 rw[this,jcj hn];rfl
theorem jll(o:Order):fl o 0={o with dW:=1}:=by simp[fl]
theorem jom(o:Order)(hk:o.dW=0):fl o o.aH.length=KY o:=by
 unfold fl KY;rw[aB hk];simp
theorem jol(o:Order)(k:Nat):(fl o k).aH.length=o.aH.length:=by
 unfold fl;simp only[aZ,fU,bT,fQ];omega
theorem jln{o:Order}{k:Nat}(hk:k<o.aH.length):gK (fl o k).aH k=gK o.aH k:=by
 unfold fl gK;simp only[List.getD];rw[jX (by simp;omega)]
 simp[jS (jh hk)]
theorem jlm{o:Order}{k:Nat}(hk:k<o.aH.length):fl o (k+1)={fl o k with aH:=(fl o k).aH.set k {gK o.aH k with dP:=(gK o.aH k).iw}}:=by
 have e:gK o.aH k=o.aH[k]:=qw hk;unfold fl;rw[e,dO hk,fJ,eH];congr 1
 have h1:((o.aH.take k).map λx=>({x with dP:=x.iw}:Line)).length=k:=by simp;omega
 rw[mG _ _ (by omega),h1,rM,jE hk]
 rfl
theorem Uc(hn:n<s.ak.length):({tX s n with ak:=(tX s n).ak.set n {(tX s n).aC n with dW:=1}}:aJ)=Dk s n 0:=by
 unfold Dk;rw[jll,Ir hn];rfl
theorem Jo:(Dk s n k).ak.length=s.ak.length:=by
 unfold Dk;rw[jU,Ez]
theorem MH(hn:n<s.ak.length):(Dk s n k).aC n=fl (s.aC n) k:=by
 have:=EN (l:=(tX s n).ak) (o:=n) (by rw[Ez];exact hn) (fl (s.aC n) k) n
 rw[aB rfl]at this
 exact this
theorem DI(hn:n<s.ak.length):((Dk s n k).aC n).aH.length=(s.aC n).aH.length:=by rw[MH hn,jol]
theorem J4(hn:n<s.ak.length)(hk:k<(s.aC n).aH.length):(Dk s n k).aG n k=s.aG n k:=by
 unfold aJ.aG;rw[MH hn,jln hk]
theorem Ud(hn:n<s.ak.length)(hk:k<(s.aC n).aH.length):(Dk s n k).lY n k {s.aG n k with dP:=(s.aG n k).iw}=Dk s n (k+1):=by
 unfold aJ.lY;rw[MH hn];have e:s.aG n k=gK (s.aC n).aH k:=rfl;rw[e,<- jlm hk];show({s with ak:=((tX s n).ak.set n (fl (s.aC n) k)).set n (fl (s.aC n) (k+1))}:aJ)=_
 rw[DV];rfl
theorem WS(hn:n<s.ak.length)(hk:(s.aC n).dW=0):Dk s n (s.aC n).aH.length=tX s (n+1):=by
 unfold Dk;rw[jom _ hk,Ua hn]
def Ed(p:dA)(s:aJ)(n k:Nat):aJ:=IB p n k (jV p n (mV s))
theorem LQ{p:dA}(h:aQ p s=0)(hn:n<s.ak.length)(hkd:((jV p n (mV s)).aC n).dW=1)(hk:k<=(s.aC n).aH.length):
  lI p (Ed p s n k)/\(Ed p s n k).ak.length=s.ak.length/\(∀o,((Ed p s n k).aC o).dW=((jV p n (mV s)).aC o).dW)/\((Ed p s n k).aC n).aH.length=(s.aC n).aH.length:=by
 have hf:=jf (J3 h);have h1:=Dt hf n (by rw[xM];omega)
 have hl:((jV p n (mV s)).aC n).aH.length=(s.aC n).aH.length:=by rw[h1.aH,Ap s hn]
 have h2:=Hw h1.right (o:=n) (by rw[h1.ak,xM];exact hn) hkd k (by rw[hl];exact hk)
 exact⟨h2.right,by rw[show Ed p s n k=IB p n k (jV p n (mV s))from rfl,h2.ak,h1.ak,xM],h2.dW,by rw[show Ed p s n k=IB p n k (jV p n (mV s))from rfl,h2.aH,hl]⟩
theorem ja8{p:dA}(h:aQ p s=0)(hn:n<s.ak.length)(hkd:((jV p n (mV s)).aC n).dW=1)(hk:k<(s.aC n).aH.length):May (Ed p s n k) n k ((Ed p s n k).aG n k).dP:=by
 obtain⟨h1,h2,h3,h4⟩:=LQ h hn hkd (jh hk);exact Yw h1 (by rw[h2];exact hn) (by rw[h4];exact hk) (by rw[h3];exact hkd)
theorem LP{p:dA}(h:aQ p s=0)(hn:n<=s.ak.length):lI p (jV p n (mV s))/\(jV p n (mV s)).ak.length=s.ak.length/\∀o,o<s.ak.length->((jV p n (mV s)).aC o).aH.length=(s.aC o).aH.length:=by
 have hf:=jf (J3 h);have h1:=Dt hf n (by rw[xM];omega)
 exact⟨h1.right,by rw[h1.ak,xM],λo ho=>by rw[h1.aH,Ap s ho]⟩
theorem ja7{p:dA}(h:aQ p s=0)(hn:n<s.ak.length)(hkd:((jV p n (mV s)).aC n).dW=1):Ed p s n (s.aC n).aH.length=jV p (n+1) (mV s):=by
 show _=F7 p (jV p n (mV s)) n;unfold F7;rw[aB hkd,(LP h (jh hn)).2.2 n hn];rfl
theorem jeT{p:dA}(hkd:((jV p n (mV s)).aC n).dW≠1):jV p (n+1) (mV s)=jV p n (mV s):=by
 show F7 p (jV p n (mV s)) n=_;unfold F7;rw[ay hkd]
end
section
variable {p:dA} {s:aJ} {o:Int}
theorem TJ(h:aQ p s≠0):zq p s=(jD,aQ p s):=by unfold zq;rw[aB h]
theorem Vs(h:aQ p s=0):zq p s=(Ec p s,0):=by unfold zq;rw[ay (λhn=>hn h)]
theorem Xk(h:aQ p s≠0):zJ p s o=(jD,aQ p s):=by unfold zJ;rw[aB h]
theorem OI(h:aQ p s=0)(h2:o<0\/(s.ak.length:Int)<=o):zJ p s o=(jD,4):=by
 unfold zJ;rw[ay (λhn=>hn h),nU.2 (by omega)]
 rfl
theorem Uj{i:Nat}(h:aQ p s=0)(hi:i<s.ak.length)(hk:(s.aC i).dW=2):zJ p s i=(jD,6):=by
 unfold zJ;rw[ay (λhn=>hn h),dV.2 (by omega),ay (by simp),bZ,aB hk]
theorem Zc{i:Nat}(h:aQ p s=0)(hi:i<s.ak.length)(hk:(s.aC i).dW≠2):zJ p s i=(xE s i,0):=by
 unfold zJ;rw[ay (λhn=>hn h),dV.2 (by omega),ay (by simp),bZ,ay hk]
end
def D5(o:Order)(k:Nat):List Line:=(o.aH.take k).map (λx=>{x with dP:=x.iw - x.oh})++o.aH.drop k
theorem jcC(o:Order):D5 o 0=o.aH:=by simp[D5]
theorem jeB(o:Order):D5 o o.aH.length=o.aH.map λx=>{x with dP:=x.iw - x.oh}:=by simp[D5]
theorem jeA(o:Order)(k:Nat):(D5 o k).length=o.aH.length:=by
 unfold D5;simp only[aZ,fU,bT,fQ];omega
theorem jcE{o:Order}{k:Nat}(hk:k<o.aH.length):gK (D5 o k) k=gK o.aH k:=by
 unfold D5 gK;simp only[List.getD];rw[jX (by simp;omega)]
 simp[jS (jh hk)]
theorem jcD{o:Order}{k:Nat}(hk:k<o.aH.length):D5 o (k+1)=(D5 o k).set k {gK o.aH k with dP:=(gK o.aH k).iw - (gK o.aH k).oh}:=by
 have e:gK o.aH k=o.aH[k]:=qw hk;unfold D5;rw[e,dO hk,fJ,eH];have h1:((o.aH.take k).map λx=>({x with dP:=x.iw - x.oh}:Line)).length=k:=by simp;omega
 rw[mG _ _ (by omega),h1,rM,jE hk]
 rfl
def FN(s:aJ)(l:List dZ)(i k:Nat):aJ:={s with aA:=l,ak:=s.ak.set i ⟨2,D5 (s.aC i) k⟩}
section
variable {s:aJ} {l:List dZ} {i k:Nat}
theorem Xl:({s with aA:=l,ak:=s.ak.set i {s.aC i with dW:=2}}:aJ)=FN s l i 0:=by
 unfold FN;rw[jcC]
theorem Lm:(FN s l i k).ak.length=s.ak.length:=by unfold FN;rw[jU]
theorem OJ(hi:i<s.ak.length):(FN s l i k).aC i=⟨2,D5 (s.aC i) k⟩:=by
 have:=EN (l:=s.ak) hi ⟨2,D5 (s.aC i) k⟩ i;rw[aB rfl]at this
 exact this
theorem EX(hi:i<s.ak.length):((FN s l i k).aC i).aH.length=(s.aC i).aH.length:=by rw[OJ hi,jeA]
theorem MR(hi:i<s.ak.length)(hk:k<(s.aC i).aH.length):(FN s l i k).aG i k=s.aG i k:=by
 unfold aJ.aG;rw[OJ hi,jcE hk]
theorem Xm(hi:i<s.ak.length)(hk:k<(s.aC i).aH.length):(FN s l i k).lY i k {s.aG i k with dP:=(s.aG i k).iw - (s.aG i k).oh}=FN s l i (k+1):=by
 unfold aJ.lY;rw[OJ hi];have e:s.aG i k=gK (s.aC i).aH k:=rfl;rw[e];show({s with aA:=l,ak:=(s.ak.set i ⟨2,D5 (s.aC i) k⟩).set i ⟨2,(D5 (s.aC i) k).set k _⟩}:aJ)=_
 rw[DV,<- jcD hk];rfl
theorem Zd:FN s (s.aA.filter λh=>decide (h.aC≠i)) i (s.aC i).aH.length=xE s i:=by
 unfold FN xE;rw[jeB]
end
def preS(s:aJ)(o k b:Nat)(n:Int):aJ:=
 {s with on:=setCell s.on b (s.aG o k).dh.toNat (cell s.on b (s.aG o k).dh.toNat - n),O:=s.O.set (s.aG o k).dh.toNat (bI s.O (s.aG o k).dh.toNat+n),aA:=jH s.aA ⟨o,k,b,0⟩}
theorem YB(s:aJ)(o k b:Nat)(held n:Int):qg s o k b held n=(preS s o k b n).lY o k {s.aG o k with oh:=(s.aG o k).oh+n,dP:=(s.aG o k).dP+held - n}:=rfl
structure FT(p:dA)(s:aJ)(o k b:Nat)(n:Int):Prop where
 ho:o<s.ak.length
 hk:k<(s.aC o).aH.length
 hb:b<p.bQ.length
 held:1<=bW s.aA o k b
 n0:0<=n
 n1:n<=bW s.aA o k b
 O:bI s.O (s.aG o k).dh.toNat+n<=1048576
section
variable {p:dA} {s:aJ} {o k b:Nat} {n:Int}
theorem JW{l:List dZ}(hl:iD l=true)(o ln:Int)(b:Nat):bW l o ln b<=kept l o ln:=by
 by_cases hb:b<6
 ·rw[Gj hl];have h0:∀i,i<6->0<=bW l o ln i:=λi _=>KL hl _ _ _
  have:∀m,b<m->m<=6->bW l o ln b<=nH (λi=>bW l o ln i) m:=by
   intro m;induction m with
   |zero=>intro h;omega
   |succ m ih=>
    intro h h6;have hs:∀q,q<=6->0<=nH (λi=>bW l o ln i) q:=by
     intro q;induction q with
     |zero=>intro _;exact iM _
     |succ q ih=>intro hq;have:=ih (by omega);have:=h0 q (by omega);show 0<=nH (λi=>bW l o ln i) q+bW l o ln q;omega
    show _<=nH _ m+bW l o ln m;by_cases e:b=m
    ·subst e;have:=hs b (by omega)
     omega
    ·have:=ih (by omega) (by omega)
     have:=h0 m (by omega)
     omega
  exact this 6 hb (by omega)
 ·have h1:=vK hl o ln;by_cases h0:bW l o ln b=0
  ·rw[h0];exact h1.1
  ·have:=(Dh (gG.1 hl).1 (gG.1 hl).2 h0).1;unfold sD at this
   omega
theorem Ql(h:lI p s)(f:FT p s o k b n):((s.aG o k).dh.toNat:Int)=(s.aG o k).dh/\(s.aG o k).dh.toNat<p.aP.length:=by
 have:=(h.sane.aG f.ho f.hk).1;omega
theorem LV(h:lI p s)(f:FT p s o k b n):(s.aC o).dW=1:=by
 have h1:=h.AU f.ho f.hk;have h2:=h.sane.dW f.ho;have h3:=JW h.sane.aA o k b;have h4:=f.held;have h5:=h.sane.aG f.ho f.hk;have h6:(s.aC o).dW≠0:=λe=>by rw[aB e]at h1;omega
 have h7:(s.aC o).dW≠2:=λe=>h1.2 ⟨e,by omega⟩
 omega
theorem jdu(h:lI p s)(f:FT p s o k b n):bW s.aA o k b<=bound s b (s.aG o k).dh/\bound s b (s.aG o k).dh<=cell s.on b (s.aG o k).dh.toNat/\cell s.on b (s.aG o k).dh.toNat<=200:=by
 obtain⟨e,hg⟩:=Ql h f;have h1:=TR h.sane o k b;have h2:=yB h.sane b (s.aG o k).dh;have h3:=h.bnd f.hb hg;rw[e]at h3
 have h4:=h.sane.cell f.hb hg;simp only[bZ]at h1
 exact⟨by unfold bound;omega,h3,h4.2⟩
theorem CS(f:FT p s o k b n)(held:Int)(o' k':Nat):(qg s o k b held n).aG o' k'=if o'=o/\k'=k then {s.aG o k with oh:=(s.aG o k).oh+n,dP:=(s.aG o k).dP+held - n}else s.aG o' k':=
 LZ (s:=preS s o k b n) f.ho f.hk _ o' k'
theorem EK(f:FT p s o k b n)(held:Int)(o':Nat):((qg s o k b held n).aC o').dW=(s.aC o').dW:=Ro (s:=preS s o k b n) f.ho _ _ _
theorem Dv(f:FT p s o k b n)(held:Int)(o':Nat):((qg s o k b held n).aC o').aH.length=(s.aC o').aH.length:=Kw (s:=preS s o k b n) f.ho _ _ _
theorem oV(held:Int):(qg s o k b held n).ak.length=s.ak.length:=Jb _ _ _ _
theorem Ip(f:FT p s o k b n)(held:Int)(o' k':Nat):((qg s o k b held n).aG o' k').dh=(s.aG o' k').dh/\((qg s o k b held n).aG o' k').iw=(s.aG o' k').iw:=by
 rw[CS f];split
 ·rename_i hq
  obtain⟨rfl,rfl⟩:=hq;exact⟨rfl,rfl⟩
 ·exact⟨rfl,rfl⟩
theorem VA(h:lI p s)(f:FT p s o k b n)(held:Int):iD (qg s o k b held n).aA=true:=
 UJ (h:=⟨o,k,b,0⟩) h.sane.aA (Jg h.sane f.ho f.hk f.hb) ⟨iM _,by show(0:Int)<=200;omega⟩
theorem XQ(h:lI p s)(f:FT p s o k b n)(held:Int)(o' k' b':Int):bW (qg s o k b held n).aA o' k' b'=if(o:Int)=o'/\(k:Int)=k'/\(b:Int)=b' then 0 else bW s.aA o' k' b':=by
 have e:=ER (h:=⟨o,k,b,0⟩) h.sane.aA (Jg h.sane f.ho f.hk f.hb) ⟨iM _,by show(0:Int)<=200;omega⟩ o' k' b'
 exact e
theorem TL(h:lI p s)(f:FT p s o k b n)(held:Int)(o' k':Int):kept (qg s o k b held n).aA o' k'=kept s.aA o' k' - if(o:Int)=o'/\(k:Int)=k' then bW s.aA o k b else 0:=by
 have e:=YP (h:=⟨o,k,b,0⟩) h.sane.aA (Jg h.sane f.ho f.hk f.hb) ⟨iM _,by show(0:Int)<=200;omega⟩ o' k'
 refine e.trans ?_
 simp only;split<;>omega
theorem ZE(h:lI p s)(f:FT p s o k b n)(held:Int)(b' g:Int):bound (qg s o k b held n) b' g=bound s b' g - if(b:Int)=b'/\(s.aG o k).dh=g then bW s.aA o k b else 0:=by
 have e1:pK (qg s o k b held n) b' g=pK {s with aA:=jH s.aA ⟨o,k,b,0⟩} b' g:=
  MF (s:={s with aA:=jH s.aA ⟨o,k,b,0⟩}) (t:=qg s o k b held n) rfl (λo' k'=>(Ip f held o' k').1) b' g
 have e2:=TV (s:=s) (h:=⟨o,k,b,0⟩) h.sane.aA (Jg h.sane f.ho f.hk f.hb) b' g;unfold bound;rw[e1,e2];simp only[bZ];have:lZ (qg s o k b held n).aF b' g=lZ s.aF b' g:=rfl;rw[this];split<;>omega
theorem Fj(h:lI p s)(f:FT p s o k b n):lI p (qg s o k b (bW s.aA o k b) n):=by
 obtain⟨e,hg⟩:=Ql h f;obtain⟨c1,c2,c3⟩:=jdu h f;have hkd:=LV h f;have hn0:=f.n0;have hn1:=f.n1;have hout:=f.O;have hs:=h.sane;have hbl:b<s.on.length:=by rw[hs.tY];exact f.hb
 have hgl:(s.aG o k).dh.toNat<(fO s.on b).length:=by rw[hs.rowLen f.hb];exact hg
 have hol:(s.aG o k).dh.toNat<s.O.length:=by rw[hs.O.1];exact hg
 have hls:=h.AU f.ho f.hk;have hln:=hs.aG f.ho f.hk;have hkk:=JW hs.aA o k b;rw[ay (by omega)]at hls
 refine lI.of (o9.of ?_ (by rw[oV];exact hs.qH) hs.vJ (λo' ho'=>?_) (λo' k' ho' hk'=>?_) (VA h f _) (λx hx=>?_) (λx hx=>aX.1 (dR.1 hs.form).2.2.2.1 x hx)
  (dR.1 hs.form).2.2.2.2.1 (LK (dR.1 hs.form).2.2.2.2.2.1 hol (by have:=(hs.O.2 hg).1;omega) hout) (dR.1 hs.form).2.2.2.2.2.2) (λg hg'=>?_) (λb' g hb' hg'=>?_) (λo' k' ho' hk'=>?_)
 ·exact jZ.2 ⟨hs.plan,LM (jZ.1 hs.shelf).2 (by omega) f.hb hg⟩
 ·rw[oV]at ho'
  rw[Dv f,EK f];exact⟨hs.tN ho',hs.dW ho'⟩
 ·rw[oV]at ho'
  rw[Dv f]at hk'
  have hl:=hs.aG ho' hk';rw[CS f,rP];split
  ·rename_i hq
   obtain⟨rfl,rfl⟩:=hq;simp only;omega
  ·exact hl
 ·have hin:yQ p s x=true:=by
   rcases IZ.1 hx with⟨h1,_⟩|⟨_,h1⟩
   ·exact aX.1 (dR.1 hs.form).2.2.1 x h1
   ·exact absurd rfl h1
  have:=nZ.1 hin;exact nZ.2 ⟨by rw[oV];exact this.1,by rw[Dv f];exact this.2.1,this.2.2⟩
 ·have h1:=h.sum hg';have e1:BU (qg s o k b (bW s.aA o k b) n).on g=_:=Ea (n:=cell s.on b (s.aG o k).dh.toNat - n) hbl hgl g;have e2:bI (qg s o k b (bW s.aA o k b) n).O g=if g=(s.aG o k).dh.toNat then bI s.O (s.aG o k).dh.toNat+n else bI s.O g:=IJ hol
  have e3:bI (qg s o k b (bW s.aA o k b) n).gY g=bI s.gY g:=rfl;have e4:bI (qg s o k b (bW s.aA o k b) n).bg g=bI s.bg g:=rfl;rw[e1,e2,e3,e4];split
  ·rename_i hq
   subst hq;omega
  ·omega
 ·have h1:=h.bnd hb' hg';rw[ZE h f];have e1:cell (qg s o k b (bW s.aA o k b) n).on b' g=if b'=b/\g=(s.aG o k).dh.toNat then cell s.on b (s.aG o k).dh.toNat - n else cell s.on b' g:=pR hbl hgl
  rw[e1];by_cases hq:b'=b/\g=(s.aG o k).dh.toNat
  ·rw[aB hq,aB ⟨by omega,by omega⟩]
   obtain⟨rfl,rfl⟩:=hq;rw[e];omega
  ·rw[ay hq,ay (by omega)]
   omega
 ·rw[oV]at ho'
  rw[Dv f]at hk'
  obtain⟨l1,l2⟩:=h.AU ho' hk';obtain⟨g1,g2⟩:=Ip f (bW s.aA o k b) o' k';refine uz.2 ?_
  rw[g2,TL h f,EK f,CS f];by_cases hq:o'=o/\k'=k
  ·obtain⟨rfl,rfl⟩:=hq;rw[aB ⟨rfl,rfl⟩,aB ⟨rfl,rfl⟩,ay (by omega)]
   simp only;exact⟨by omega,by omega⟩
  ·rw[ay hq,ay (by omega),qx]
   exact⟨l1,l2⟩
theorem I8(h:lI p s)(f:FT p s o k b n):May (qg s o k b (bW s.aA o k b) n) o k (bW s.aA o k b - n):=by
 have hln:=(h.sane.aG f.ho f.hk).2.2.2.1;refine⟨by rw[oV];exact f.ho,by rw[Dv f];exact f.hk,by rw[EK f];exact LV h f,by have:=f.n1;omega,?_⟩
 rw[CS f,aB ⟨rfl,rfl⟩];simp only;omega
def DN(p:dA)(s:aJ)(o k b:Nat)(n:Int):aJ:=(qL p (qg s o k b (bW s.aA o k b) n) o k (bW s.aA o k b - n) b).1
theorem Ja:Ai p s o k b n=close (DN p s o k b n) o:=rfl
theorem I9(h:lI p s)(f:FT p s o k b n):
  Held p (qg s o k b (bW s.aA o k b) n) (DN p s o k b n) o k (bW s.aA o k b - n - (qL p (qg s o k b (bW s.aA o k b) n) o k (bW s.aA o k b - n) b).2)/\0<=(qL p (qg s o k b (bW s.aA o k b) n) o k (bW s.aA o k b - n) b).2/\
  (qL p (qg s o k b (bW s.aA o k b) n) o k (bW s.aA o k b - n) b).2<=bW s.aA o k b - n:=Qi (Fj h f) (I8 h f)
theorem Qj{o k b:Nat}:∀ {bs:List Nat} {s:aJ} {n:Int},lI p s->(∀x∈bs,x<p.bQ.length)->May s o k n->bW (uo o k (b:Int) bs s n).1.aA o k b=bW s.aA o k b
 |[],_,_,_,_,_=>rfl
 |c::r,s,n,h,hb,hm=>by
  by_cases hq:(c:Int)=b\/min n (lU s c (s.aG o k).dh)<1
  ·rw[zn hq];exact Qj h (λx hx=>hb x (bP _ hx)) hm
  ·rw[F8 (by omega) (by omega)]
   have f:=hm.fits (p:=p) (b:=c) (m:=min n (lU s c (s.aG o k).dh)) (hb c (dS ..)) (by omega) (by omega) (by omega)
   have h1:=Held.one h f;rw[Qj h1.right (λx hx=>hb x (bP _ hx)) (hm.held h1 (by omega)),Me h f,ay (by omega),jC]
theorem J8(t:aJ)(o:Nat)(ho:o<t.ak.length)(o':Nat):(close t o).aC o'=if o'=o/\oZ (t.aC o)=true then {t.aC o with dW:=2}else t.aC o':=by
 unfold close;by_cases ha:oZ (t.aC o)=true
 ·rw[aB ha];have:aJ.aC {t with ak:=t.ak.set o {t.aC o with dW:=2}} o'=if o'=o then {t.aC o with dW:=2}else t.aC o':=EN ho _ _
  rw[this];by_cases e:o'=o
  ·rw[aB e,aB ⟨e,ha⟩]
  ·rw[ay e,ay (λh=>e h.1)]
 ·rw[ay ha,ay (λh=>ha h.2)]
theorem Aq(t:aJ)(o:Nat)(ho:o<t.ak.length)(o':Nat):((close t o).aC o').aH=(t.aC o').aH:=by
 rw[J8 t o ho];split
 ·rename_i h;rw[h.1]
 ·rfl
theorem ED(t:aJ)(o:Nat)(ho:o<t.ak.length)(o' k':Nat):(close t o).aG o' k'=t.aG o' k':=by
 unfold aJ.aG;rw[Aq t o ho]
theorem Gx(t:aJ)(o:Nat):(close t o).ak.length=t.ak.length:=by
 unfold close;split<;>simp
theorem EC(t:aJ)(o:Nat):(close t o).on=t.on/\(close t o).aA=t.aA/\(close t o).aF=t.aF/\(close t o).gY=t.gY/\(close t o).O=t.O/\(close t o).bg=t.bg:=by
 unfold close;split<;>exact⟨rfl,rfl,rfl,rfl,rfl,rfl⟩
theorem Ui(t:aJ)(o:Nat)(ho:o<t.ak.length)(b g:Int):bound (close t o) b g=bound t b g:=by
 have e:pK (close t o) b g=pK t b g:=MF (EC t o).2.1 (λo' k'=>by rw[ED t o ho]) b g
 unfold bound;rw[e,(EC t o).2.2.1]
theorem jcB{t:aJ}{o:Nat}(h:lI p t)(ho:o<t.ak.length)(hkd:(t.aC o).dW=1)(hot:∀o',o'<t.ak.length->o'≠o->¬((t.aC o').dW=1/\oZ (t.aC o')=true)):aQ p (close t o)=0:=by
 have hs:=h.sane;obtain⟨r1,r2,r3,r4,r5,r6⟩:=EC t o;have hord:=J8 t o ho;have hkind:∀o',((close t o).aC o').dW=if o'=o/\oZ (t.aC o)=true then 2 else(t.aC o').dW:=λo'=>by
  rw[hord];split<;>rfl
 refine oU.2 ⟨lI.of (o9.of (by rw[r1];exact hs.shelf) (by rw[Gx];exact hs.qH) (by rw[r3];exact hs.vJ) (λo' ho'=>?_) (λo' k' ho' hk'=>?_) (by rw[r2];exact hs.aA) (λx hx=>?_) (λx hx=>?_)
  (by rw[r4];exact(dR.1 hs.form).2.2.2.2.1) (by rw[r5];exact(dR.1 hs.form).2.2.2.2.2.1) (by rw[r6];exact(dR.1 hs.form).2.2.2.2.2.2)) (λg hg=>?_) (λb g hb hg=>?_) (λo' k' ho' hk'=>?_),λo' ho'=>?_⟩
 ·rw[Gx]at ho'
  rw[Aq t o ho,hkind];refine⟨hs.tN ho',?_⟩
  have:=hs.dW ho';split<;>omega
 ·rw[Gx]at ho'
  rw[Aq t o ho]at hk'
  rw[ED t o ho];exact rP.2 (hs.aG ho' hk')
 ·rw[r2]at hx
  have:=nZ.1 (aX.1 (dR.1 hs.form).2.2.1 x hx);exact nZ.2 ⟨by rw[Gx];exact this.1,by rw[Aq t o ho];exact this.2.1,this.2.2⟩
 ·rw[r3]at hx
  exact aX.1 (dR.1 hs.form).2.2.2.1 x hx
 ·rw[r1,r4,r5,r6];exact h.sum hg
 ·rw[Ui t o ho,r1];exact h.bnd hb hg
 ·rw[Gx]at ho'
  rw[Aq t o ho]at hk'
  have h1:=h.AU ho' hk';have h2:=hs.aG ho' hk';have h3:=(vK hs.aA o' k').1;refine uz.2 ?_
  rw[ED t o ho,r2,hkind];by_cases hq:o'=o/\oZ (t.aC o)=true
  ·rw[aB hq];obtain⟨rfl,ha⟩:=hq;have h4:=yE.1 ha k' hk';change(t.aG o' k').oh=(t.aG o' k').iw at h4
   rw[ay (by omega)]at h1
   rw[ay (by omega)]
   omega
  ·rw[ay hq];exact h1
 ·rw[Gx]at ho'
  rw[hkind];by_cases hq:o'=o/\oZ (t.aC o)=true
  ·rw[aB hq];omega
  ·rw[ay hq];have e:oZ ((close t o).aC o')=oZ (t.aC o'):=by
    unfold oZ;rw[Aq t o ho]
   rw[e];by_cases ho2:o'=o
   ·subst ho2;rintro⟨_,ha⟩;exact hq ⟨rfl,ha⟩
   ·exact hot o' ho' ho2
theorem LW(hc:aQ p s=0)(f:FT p s o k b n):aQ p (Ai p s o k b n)=0/\(Ai p s o k b n).ak.length=s.ak.length/\(∀o',((Ai p s o k b n).aC o').aH.length=(s.aC o').aH.length)/\
  (∀o' k':Nat,¬(o'=o/\k'=k)->kept (Ai p s o k b n).aA o' k'=kept s.aA o' k'/\(Ai p s o k b n).aG o' k'=s.aG o' k')/\((Ai p s o k b n).aG o k).oh=(s.aG o k).oh+n/\
  (((Ai p s o k b n).aC o).dW=2↔oZ ((Ai p s o k b n).aC o)=true):=by
 obtain⟨h,Ky⟩:=oU.1 hc;obtain⟨ht,_,_⟩:=I9 h f;have hot:o<(DN p s o k b n).ak.length:=by rw[ht.ak,oV];exact f.ho
 have hkd:((DN p s o k b n).aC o).dW=1:=by rw[ht.dW,EK f];exact LV h f
 have TT:∀o' k',¬(o'=o/\k'=k)->(DN p s o k b n).aG o' k'=s.aG o' k':=λo' k' hn=>by
  have h1:=ht.aG o' k';have h2:=ht.dP o' k';rw[ay hn,qx]at h2
  rw[CS f,ay hn]at h1 h2
  obtain⟨a1,a2,a3⟩:=h1;cases hx:(DN p s o k b n).aG o' k';cases hy:s.aG o' k';rw[hx,hy]at a1 a2 a3 h2
  simp only at a1 a2 a3 h2
  rw[a1,a2,a3,h2]
 rw[Ja];refine⟨jcB ht.right hot hkd (λo' ho' hne=>?_),by rw[Gx,ht.ak,oV],λo'=>by rw[Aq _ o hot,ht.aH,Dv f],λo' k' hn=>⟨?_,?_⟩,?_,?_⟩
 ·rw[ht.ak,oV]at ho'
  rw[ht.dW,EK f,ht.oZ];have e:oZ ((qg s o k b (bW s.aA o k b) n).aC o')=oZ (s.aC o'):=by
   have:(qg s o k b (bW s.aA o k b) n).aC o'=s.aC o':=by
    have:=GK (s:=preS s o k b n) f.ho k {s.aG o k with oh:=(s.aG o k).oh+n,dP:=(s.aG o k).dP+bW s.aA o k b - n} o'
    rw[ay hne]at this
    exact this
   rw[this]
  rw[e];exact Ky o' ho'
 ·rw[(EC _ o).2.1,ht.kept,ay (by omega),TL h f,ay (by omega)]
  omega
 ·rw[ED _ o hot,TT o' k' hn]
 ·rw[ED _ o hot,(ht.aG o k).2.2,CS f,aB ⟨rfl,rfl⟩]
 ·have e:oZ ((close (DN p s o k b n) o).aC o)=oZ ((DN p s o k b n).aC o):=by
   unfold oZ;rw[Aq _ o hot]
  rw[e,J8 _ o hot];by_cases ha:oZ ((DN p s o k b n).aC o)=true
  ·rw[aB ⟨rfl,ha⟩];simp[ha]
  ·rw[ay (λhh=>ha hh.2)]
   simp only[ha];constructor
   ·intro hh;omega
   ·intro hh;cases hh
theorem jbh(hc:aQ p s=0)(f:FT p s o k b n):bW (Ai p s o k b n).aA o k b=0/\((Ai p s o k b n).aG o k).oh+((Ai p s o k b n).aG o k).dP+kept (Ai p s o k b n).aA o k=((Ai p s o k b n).aG o k).iw/\
  ((Ai p s o k b n).aG o k).dh=(s.aG o k).dh/\((s.aG o k).dP<((Ai p s o k b n).aG o k).dP->∀b':Nat,b'<p.bQ.length->b'≠b->lU (Ai p s o k b n) b' (s.aG o k).dh=0):=by
 obtain⟨h,Ky⟩:=oU.1 hc;obtain⟨ht,ht1,ht2⟩:=I9 h f;have hot:o<(DN p s o k b n).ak.length:=by rw[ht.ak,oV];exact f.ho
 have hcx:=(LW hc f).1;have hx:=jf hcx;have kD:=(LW hc f).2.1;have Hz:=(LW hc f).2.2.1;have hls:=(hx.AU (o:=o) (k:=k) (by rw[kD];exact f.ho) (by rw[Hz];exact f.hk)).1
 have hkd:((Ai p s o k b n).aC o).dW≠0:=by
  rw[Ja,J8 _ o hot];split
  ·simp only;omega
  ·rw[ht.dW,EK f,LV h f];omega
 rw[ay hkd]at hls
 refine⟨?_,hls,?_,λhlt b' hb' hne=>?_⟩
 ·rw[Ja,(EC _ o).2.1];have:=Qj (b:=b) (Fj h f) (I4 p) (I8 h f);change bW (DN p s o k b n).aA o k b=_ at this
  rw[this,XQ h f,aB ⟨rfl,rfl,rfl⟩]
 ·rw[Ja,ED _ o hot,(ht.aG o k).1,(Ip f _ o k).1]
 ·rw[Ja,ED _ o hot,ht.dP,aB ⟨rfl,rfl⟩,CS f,aB ⟨rfl,rfl⟩]at hlt
  simp only at hlt
  have:=Ve (but:=b) (Fj h f) (I8 h f) (by omega) hb' (by omega)
  change lU (DN p s o k b n) b' _=0 at this
  rw[(Ip f _ o k).1]at this
  rw[Ja];unfold lU at this ⊢
  rw[Ui _ o hot,(EC _ o).1];exact this
theorem VB{o k b n:Int}(h:(pick p s o k b n).2=0):aQ p s=0/\∃i j c:Nat,o=i/\k=j/\b=c/\FT p s i j c n/\(pick p s o k b n).1=Ai p s i j c n:=by
 unfold pick at h ⊢
 by_cases h1:aQ p s=0
 ·rw[ay (λhn=>hn h1)]at h ⊢
  by_cases h2:bW s.aA o k b=0
  ·rw[aB h2]at h
   simp at h
  rw[ay h2]at h ⊢
  cases h3:cZ n 0 (bW s.aA o k b)
  ·rw[h3,aB (by rfl)]at h
   simp at h
  rw[h3,ay (by simp)]at h
  rw[ay (by simp)]
  have h3':=dV.1 h3;by_cases h4:1048576<bI s.O (s.aG o.toNat k.toNat).dh.toNat+n
  ·rw[aB h4]at h
   simp at h
  rw[ay h4];have hs:=(jf h1).sane;obtain⟨hk1,hm⟩:=Dh (gG.1 hs.aA).1 (gG.1 hs.aA).2 h2;have hin:=nZ.1 (aX.1 (dR.1 hs.form).2.2.1 _ hm);simp only at hin
  have wK:=KL hs.aA o k b;unfold sD at hk1
  obtain⟨i,rfl⟩:∃i:Nat,o=i:=⟨o.toNat,by omega⟩
  obtain⟨j,rfl⟩:∃j:Nat,k=j:=⟨k.toNat,by omega⟩
  obtain⟨c,rfl⟩:∃c:Nat,b=c:=⟨b.toNat,by omega⟩
  simp only[bZ]at hin h4 ⊢
  exact⟨h1,i,j,c,rfl,rfl,rfl,⟨by omega,by omega,by omega,by omega,by omega,by omega,by omega⟩,rfl⟩
 ·rw[aB h1]at h
  exact absurd h h1
end
section
variable {p:dA} {s:aJ} {o k b n:Int}
theorem jbg(h:aQ p s≠0):pick p s o k b n=(jD,aQ p s):=by unfold pick;rw[aB h]
theorem YC(h:aQ p s=0)(h2:bW s.aA o k b=0):pick p s o k b n=(jD,4):=by unfold pick;rw[ay (λhn=>hn h),aB h2]
theorem Qm(h:aQ p s=0)(h2:bW s.aA o k b≠0)(h3:n<0\/bW s.aA o k b<n):pick p s o k b n=(jD,3):=by
 unfold pick;rw[ay (λhn=>hn h),ay h2,nU.2 h3]
 rfl
theorem jeU(h:aQ p s=0)(h2:bW s.aA o k b≠0)(h3:0<=n/\n<=bW s.aA o k b):
  ∃i j c:Nat,o=i/\k=j/\b=c/\i<s.ak.length/\j<(s.aC i).aH.length/\c<p.bQ.length/\1<=bW s.aA i j c/\bW s.aA i j c<=200/\
   pick p s o k b n=if 1048576<bI s.O (s.aG i j).dh.toNat+n then(jD,2)else(Ai p s i j c n,0):=by
 have hs:=(jf h).sane;obtain⟨hk1,hm⟩:=Dh (gG.1 hs.aA).1 (gG.1 hs.aA).2 h2;have hin:=nZ.1 (aX.1 (dR.1 hs.form).2.2.1 _ hm);simp only at hin
 have hr:=Fv (gG.1 hs.aA).1 (gG.1 hs.aA).2 o k b;unfold sD at hk1
 obtain⟨i,rfl⟩:∃i:Nat,o=i:=⟨o.toNat,by omega⟩
 obtain⟨j,rfl⟩:∃j:Nat,k=j:=⟨k.toNat,by omega⟩
 obtain⟨c,rfl⟩:∃c:Nat,b=c:=⟨b.toNat,by omega⟩
 simp only[bZ]at hin
 refine⟨i,j,c,rfl,rfl,rfl,by omega,by omega,by omega,by omega,hr.2,?_⟩
 unfold pick;rw[ay (λhn=>hn h),ay h2,dV.2 h3,ay (by simp)]
 simp only[bZ]
end
theorem DJ{α β:Type}{P:β->Prop}{f:β->α->β}:∀ {l:List α} {t:β},(∀t x,x∈l->P t->P (f t x))->P t->P (l.foldl f t)
 |[],_,_,h=>h
 |x::l,_,hs,h=>DJ (l:=l) (λt y hy=>hs t y (bP _ hy)) (hs _ x (dS ..) h)
structure wO(p:dA)(s t:aJ):Prop where
 right:lI p t
 oh:∀o,o<t.ak.length->¬((t.aC o).dW=1/\oZ (t.aC o)=true)
 rest:t={s with aF:=t.aF}
 ext:∃l,t.aF=s.aF++l/\∀x∈l,((0<=x.src/\x.src<p.bQ.length)/\(0<=x.dst/\x.dst<p.bQ.length)/\(0<=x.dh/\x.dh<p.aP.length))/\(p.bin x.src.toNat).front=false/\(p.bin x.dst.toNat).front=true/\
  cell s.on x.dst.toNat x.dh.toNat+iq t x.dst x.dh<=(p.bin x.dst.toNat).high
 less:∀b:Nat,b<p.bQ.length->free p t b<=free p s b/\(free p t b<free p s b->0<=free p t b)
section
variable {p:dA} {s t:aJ} {b g f:Nat} {n:Int}
theorem jal(l:List Move)(x:Move)(b g:Int):lZ (l++[x]) b g=lZ l b g+Aj b g x:=by
 unfold lZ;rw[fJ,ug];simp
theorem Ye(l:List Move)(x:Move)(b g:Int):Lh (l++[x]) b g=Lh l b g+toN b g x:=by
 unfold Lh;rw[fJ,ug];simp
def zC(t:aJ)(x:Move):aJ:={t with aF:=t.aF++[x]}
theorem Yh(x:Move)(b g:Int):bound (zC t x) b g=bound t b g+Aj b g x:=by
 unfold bound;have e:pK (zC t x) b g=pK t b g:=rfl;have e2:lZ (zC t x).aF b g=lZ t.aF b g+Aj b g x:=jal _ _ _ _;rw[e,e2];omega
theorem FQ(x:Move)(b g:Int):iq (zC t x) b g=iq t b g+toN b g x:=Ye _ _ _ _
theorem jaF(b':Nat)(hg:g<p.aP.length):free p (zC t ⟨g,f,b,n⟩) b'=free p t b' - if b'=b then n*bI p.aP g else 0:=by
 unfold free;by_cases h:b'=b
 ·subst h;rw[aB rfl];have:=EH (f:=λg=>(cell t.on (b':Int).toNat g+iq t b' g)*bI p.aP g) (g:=λg'=>(cell (zC t ⟨g,f,b',n⟩).on (b':Int).toNat g'+iq (zC t ⟨g,f,b',n⟩) b' g')*bI p.aP g') (n:=p.aP.length) (i:=g) (d:=n*bI p.aP g) hg (λk hk hne=>by
   have e:iq (zC t ⟨g,f,b',n⟩) b' k=iq t b' k:=by
    rw[FQ];unfold toN;rw[ay (by simp only;omega),jC]
   simp only[e];rfl) (by
   have e:iq (zC t ⟨g,f,b',n⟩) b' g=iq t b' g+n:=by
    rw[FQ];unfold toN;rw[aB ⟨rfl,rfl⟩]
   simp only[e];have e1:(zC t ⟨g,f,b',n⟩).on=t.on:=rfl;rw[e1,<- xW];congr 1
   omega)
  rw[this];omega
 ·rw[ay h,qx];congr 1
  refine zo λk hk=>?_
  have e:iq (zC t ⟨g,f,b,n⟩) b' k=iq t b' k:=by
   rw[FQ];unfold toN;rw[ay (by simp only;omega),jC]
  rw[e];rfl
theorem jgr{r z n:Int}(hz:1<=z)(hn:1<=n)(h:n<=r.tdiv z):n*z<=r:=by
 have h0:0<r:=by
  refine Classical.byContradiction λhr=>?_
  have h1:(-r).tdiv z= -(r.tdiv z):=Int.neg_tdiv ..;have h2:0<=(-r).tdiv z:=Int.tdiv_nonneg (by omega) (by omega)
  omega
 have h1:z*r.tdiv z+r.tmod z=r:=Int.mul_tdiv_add_tmod r z;have h2:0<=r.tmod z:=jab _ (by omega)
 have h3:n*z<=r.tdiv z*z:=wU h (by omega)
 have h4:r.tdiv z*z=z*r.tdiv z:=Int.mul_comm _ _;omega
theorem jcm(h:wO p s t)(hb:b<p.bQ.length)(hg:g<p.aP.length)(hf:f<p.bQ.length)(hbf:(p.bin b).front=true)(Xu:(p.bin f).front=false)(h8:t.aF.length<8)(hn:0<n)
  (h1:n<=(p.bin b).high - cell t.on b g - iq t b g) (h2:n<=lU t f g) (h3:n*bI p.aP g<=free p t b):wO p s (zC t ⟨g,f,b,n⟩):=by
 have hr:=h.right;have hs:=hr.sane;have hfb:f≠b:=λe=>by rw[e,hbf]at Xu;cases Xu
 have hav:=hr.OL hf hg;have hcl:=hs.cell hf hg;have hon:t.on=s.on:=by rw[h.rest]
 refine⟨lI.of (o9.of hs.shelf hs.qH ?_ (λo ho=>⟨hs.tN ho,hs.dW ho⟩) (λo k ho hk=>rP.2 (hs.aG ho hk)) hs.aA (λx hx=>aX.1 (dR.1 hs.form).2.2.1 x hx) (λx hx=>?_)
  (dR.1 hs.form).2.2.2.2.1 (dR.1 hs.form).2.2.2.2.2.1 (dR.1 hs.form).2.2.2.2.2.2) (λg' hg'=>hr.sum hg') (λb' g' hb' hg'=>?_) (λo k ho hk=>hr.aG o k ho hk),h.oh,?_,?_,λb' hb'=>?_⟩
 ·show(t.aF++[_]).length<=8;simp
  omega
 ·rcases jT.1 hx with hx|hx
  ·exact aX.1 (dR.1 hs.form).2.2.2.1 x hx
  ·obtain rfl:=iP.1 hx;exact Gh.2 ⟨by simp only;omega,by simp only;omega,by simp only;omega,by simp only;omega,by simp only;omega,by simp only;omega⟩
 ·have hq:=hr.bnd hb' hg';rw[Yh];have e1:(zC t ⟨g,f,b,n⟩).on=t.on:=rfl;rw[e1];unfold Aj;simp only;split
  ·rename_i hc
   obtain⟨c1,c2⟩:=hc;obtain rfl:f=b':=by omega
   obtain rfl:g=g':=by omega
   unfold lU at h2
   simp only[bZ]at h2
   omega
  ·omega
 ·have:=h.rest;unfold zC;simp only;rw[this]
 ·obtain⟨l,hl,hx⟩:=h.ext;refine⟨l++[⟨g,f,b,n⟩],?_,λx hxm=>?_⟩
  ·show t.aF++[_]=_;rw[hl,eH]
  ·rw[FQ];unfold toN;simp only;rcases jT.1 hxm with hxm|hxm
   ·obtain⟨x1,x2,x3,x4⟩:=hx x hxm;refine⟨x1,x2,x3,?_⟩
    split
    ·rename_i hc
     obtain⟨c1,c2⟩:=hc;rw[<- c1,<- c2];simp only[bZ];rw[<- hon];omega
    ·omega
   ·obtain rfl:=iP.1 hxm;refine⟨⟨by simp only;omega,by simp only;omega,by simp only;omega⟩,by simpa using Xu,by simpa using hbf,?_⟩
    rw[aB ⟨rfl,rfl⟩];simp only[bZ];rw[<- hon];omega
 ·obtain⟨l1,l2⟩:=h.less b' hb';rw[jaF b' hg];have hsz:=zH hs.plan hg;have wK:0<=n*bI p.aP g:=BM (by omega) (by omega)
  by_cases e:b'=b
  ·subst e;rw[aB rfl];omega
  ·rw[ay e];omega
theorem QJ(h:wO p s t)(hb:b<p.bQ.length)(hg:g<p.aP.length)(hf:f<p.bQ.length)(hbf:(p.bin b).front=true)(Xu:(p.bin f).front=false):wO p s (Ie p t b g f):=by
 unfold Ie;split
 ·exact h
 ·split
  ·rename_i h8 hn
   have hsz:=zH h.right.sane.plan hg;have hN:Hr p t b g f<=(p.bin b).high - cell t.on b g - iq t b g/\Hr p t b g f<=lU t f g/\Hr p t b g f<=(free p t b).tdiv (bI p.aP g):=by
    unfold Hr;omega
   exact jcm h hb hg hf hbf Xu (by omega) hn hN.1 hN.2.1 (jgr hsz.1 (by omega) hN.2.2)
  ·exact h
theorem Oo(h:wO p s t)(hb:b<p.bQ.length)(hg:g<p.aP.length)(hbf:(p.bin b).front=true):wO p s (sW p b t g):=by
 unfold sW;split
 ·exact DJ (P:=wO p s) (λ_ _ hf h=>QJ h hb hg (Dw.1 hf).1 hbf (Dw.1 hf).2) h
 ·exact h
theorem QK(h:wO p s t)(hb:b<p.bQ.length)(hbf:(p.bin b).front=true):wO p s ((List.range p.aP.length).foldl (sW p b) t):=
 DJ (P:=wO p s) (λ_ _ hg h=>Oo h hb (gZ.1 hg) hbf) h
theorem Om(h:aQ p s=0):wO p s s:=by
 obtain⟨h1,h2⟩:=oU.1 h;exact⟨h1,h2,rfl,⟨[],by simp,λx hx=>by simp at hx⟩,λb hb=>⟨iM _,λhh=>absurd hh (by omega)⟩⟩
theorem jaq(h:aQ p s=0):wO p s (Oq p s):=
 DJ (P:=wO p s) (λ_ _ hb h=>QK h (Dw.1 hb).1 (Dw.1 hb).2) (Om h)
theorem jap(h:wO p s t):aQ p t=0:=oU.2 ⟨h.right,h.oh⟩
theorem jcn{t:aJ}(h:8<=t.aF.length)(p:dA)(b g f:Nat):Ie p t b g f=t:=by unfold Ie;rw[aB h]
theorem P8(h:8<=t.aF.length)(p:dA)(b g:Nat):sW p b t g=t:=by
 unfold sW;split
 ·exact DJ (P:=λu=>u=t) (λu f _ hu=>by rw[hu];exact jcn h p b g f) rfl
 ·rfl
theorem jar(h:8<=t.aF.length)(p:dA)(b:Nat)(l:List Nat):l.foldl (sW p b) t=t:=
 DJ (P:=λu=>u=t) (λu g _ hu=>by rw[hu];exact P8 h p b g) rfl
theorem X8(h:8<=t.aF.length)(p:dA)(l:List Nat):l.foldl (λt b=>(List.range p.aP.length).foldl (sW p b) t) t=t:=
 DJ (P:=λu=>u=t) (λu b _ hu=>by rw[hu];exact jar h p b _) rfl
theorem WU(h:(fill p s).2=0):aQ p s=0/\(fill p s).1=Oq p s:=by
 unfold fill at h ⊢
 by_cases h1:aQ p s=0
 ·rw[ay (λhn=>hn h1)]
  exact⟨h1,rfl⟩
 ·rw[aB h1]at h
  exact absurd h h1
end
section
variable {p:dA} {s:aJ} {k:Nat} {n:Int}
theorem Sr{α:Type}(f:α->Int):∀ {l:List α} {k:Nat} (hk:k<l.length),((l.eraseIdx k).map f).sum=(l.map f).sum - f l[k]
 |x::l,0,_=>by simp;omega
 |x::l,k+1,hk=>by
  have:=Sr f (l:=l) (k:=k) (by simpa using hk)
  simp only[List.eraseIdx_cons_succ,dn,iI,rQ];omega
structure Moves(p:dA)(s:aJ)(k:Nat)(n:Int):Prop where
 hk:k<s.aF.length
 n0:0<=n
 n1:n<=(bH s.aF k).n
 full:cell s.on (bH s.aF k).dst.toNat (bH s.aF k).dh.toNat+n<=200
theorem jch(hs:o9 p s)(hk:k<s.aF.length):(bH s.aF k).n<=lZ s.aF (bH s.aF k).src (bH s.aF k).dh:=by
 have h1:=Sr (Aj (bH s.aF k).src (bH s.aF k).dh) hk;have h2:0<=((s.aF.eraseIdx k).map (Aj (bH s.aF k).src (bH s.aF k).dh)).sum:=(Fp (m:=200) (λx hx=>by
  obtain⟨y,hy,rfl⟩:=kV.1 hx;obtain⟨i,hi,rfl⟩:=aV (zK hy);have:=hs.bH hi;rw[Wh.pI hi]at this
  unfold Aj;split<;>omega)).1
 have h3:Aj (bH s.aF k).src (bH s.aF k).dh s.aF[k]=(bH s.aF k).n:=by
  rw[pI hk];unfold Aj;rw[aB ⟨rfl,rfl⟩]
 unfold lZ;omega
theorem VN(hc:aQ p s=0)(f:Moves p s k n){b g:Nat}(hb:b<p.bQ.length)(hg:g<p.aP.length):cell (AQ s k n).on b g=cell s.on b g+if(g:Int)=(bH s.aF k).dh/\(b:Int)=(bH s.aF k).dst then n else if(g:Int)=(bH s.aF k).dh/\(b:Int)=(bH s.aF k).src then -n else 0:=by
 have hs:=(jf hc).sane;obtain⟨m1,m2,m3,m4,m5,m6⟩:=hs.bH f.hk;have h1:(bH s.aF k).src.toNat<s.on.length:=by rw[hs.tY];omega
 have h2:(bH s.aF k).dh.toNat<(fO s.on (bH s.aF k).src.toNat).length:=by rw[hs.rowLen (by omega)];omega
 have h3:(bH s.aF k).dst.toNat<(setCell s.on (bH s.aF k).src.toNat (bH s.aF k).dh.toNat (cell s.on (bH s.aF k).src.toNat (bH s.aF k).dh.toNat - n)).length:=by rw[qh,hs.tY];omega
 have h4:(bH s.aF k).dh.toNat<(fO (setCell s.on (bH s.aF k).src.toNat (bH s.aF k).dh.toNat (cell s.on (bH s.aF k).src.toNat (bH s.aF k).dh.toNat - n)) (bH s.aF k).dst.toNat).length:=by
  rw[uq,hs.rowLen (by omega)];omega
 have e:cell (AQ s k n).on b g=_:=pR h3 h4;rw[e,pR h1 h2,pR h1 h2];by_cases c1:(g:Int)=(bH s.aF k).dh/\(b:Int)=(bH s.aF k).dst
 ·rw[aB (by omega),ay (by omega),aB c1]
  obtain⟨rfl,rfl⟩:b=(bH s.aF k).dst.toNat/\g=(bH s.aF k).dh.toNat:=by omega
  rfl
 ·rw[ay (by omega),ay c1]
  by_cases c2:(g:Int)=(bH s.aF k).dh/\(b:Int)=(bH s.aF k).src
  ·rw[aB (by omega),aB c2]
   obtain⟨rfl,rfl⟩:b=(bH s.aF k).src.toNat/\g=(bH s.aF k).dh.toNat:=by omega
   omega
  ·rw[ay (by omega),ay c2,jC]
theorem jbs(f:Moves p s k n)(b g:Int):bound (AQ s k n) b g=bound s b g - if(bH s.aF k).src=b/\(bH s.aF k).dh=g then(bH s.aF k).n else 0:=by
 unfold bound;have e1:pK (AQ s k n) b g=pK s b g:=rfl;have e2:lZ (AQ s k n).aF b g=_:=Sr (Aj b g) f.hk;rw[e1,e2];have e3:Aj b g (s.aF[k]'f.hk)=if(bH s.aF k).src=b/\(bH s.aF k).dh=g then(bH s.aF k).n else 0:=by
  rw[pI f.hk];rfl
 rw[e3];unfold lZ;omega
theorem jfU(hc:aQ p s=0)(f:Moves p s k n){g:Nat}(_:g<p.aP.length):BU (AQ s k n).on g=BU s.on g:=by
 have hs:=(jf hc).sane;obtain⟨m1,m2,m3,m4,m5,m6⟩:=hs.bH f.hk;have h1:(bH s.aF k).src.toNat<s.on.length:=by rw[hs.tY];omega
 have h2:(bH s.aF k).dh.toNat<(fO s.on (bH s.aF k).src.toNat).length:=by rw[hs.rowLen (by omega)];omega
 have h3:(bH s.aF k).dst.toNat<(setCell s.on (bH s.aF k).src.toNat (bH s.aF k).dh.toNat (cell s.on (bH s.aF k).src.toNat (bH s.aF k).dh.toNat - n)).length:=by rw[qh,hs.tY];omega
 have h4:(bH s.aF k).dh.toNat<(fO (setCell s.on (bH s.aF k).src.toNat (bH s.aF k).dh.toNat (cell s.on (bH s.aF k).src.toNat (bH s.aF k).dh.toNat - n)) (bH s.aF k).dst.toNat).length:=by
  rw[uq,hs.rowLen (by omega)];omega
 have e:BU (AQ s k n).on g=_:=Ea h3 h4 g;rw[e,Ea h1 h2,pR h1 h2,ay (show ¬((bH s.aF k).dst.toNat=(bH s.aF k).src.toNat/\_)by omega)]
 split<;>omega
theorem jbr(hc:aQ p s=0)(f:Moves p s k n):aQ p (AQ s k n)=0:=by
 obtain⟨hr,Ky⟩:=oU.1 hc;have hs:=hr.sane;obtain⟨m1,m2,m3,m4,m5,m6⟩:=hs.bH f.hk;have hge:=jch hs f.hk;have n0:=f.n0;have n1:=f.n1;have kD:(AQ s k n).on.length=p.bQ.length:=by
  show(setCell (setCell _ _ _ _) _ _ _).length=_;rw[qh,qh,hs.tY]
 have vS:∀b,b<p.bQ.length->(fO (AQ s k n).on b).length=p.aP.length:=λb hb=>by
  show(fO (setCell (setCell _ _ _ _) _ _ _) b).length=_;rw[uq,uq,hs.rowLen hb]
 obtain⟨gs,hgs⟩:∃gs:Nat,(bH s.aF k).dh=gs:=⟨(bH s.aF k).dh.toNat,by omega⟩
 obtain⟨bs,hbs⟩:∃bs:Nat,(bH s.aF k).src=bs:=⟨(bH s.aF k).src.toNat,by omega⟩
 obtain⟨ds,hds⟩:∃ds:Nat,(bH s.aF k).dst=ds:=⟨(bH s.aF k).dst.toNat,by omega⟩
 have hbn:=hr.bnd (b:=bs) (g:=gs) (by omega) (by omega)
 have hhl:=DF hs bs gs s.aA.length;rw[Gq]at hhl
 have hfull:=f.full;rw[hgs,hds]at hfull
 simp only[bZ]at hfull
 refine oU.2 ⟨lI.of (o9.of ?_ hs.qH ?_ (λo ho=>⟨hs.tN ho,hs.dW ho⟩) (λo k ho hk=>rP.2 (hs.aG ho hk)) hs.aA (λx hx=>aX.1 (dR.1 hs.form).2.2.1 x hx) (λx hx=>?_)
  (dR.1 hs.form).2.2.2.2.1 (dR.1 hs.form).2.2.2.2.2.1 (dR.1 hs.form).2.2.2.2.2.2) (λg' hg'=>?_) (λb' g' hb' hg'=>?_) (λo k ho hk=>hr.aG o k ho hk),Ky⟩
 ·refine jZ.2 ⟨hs.plan,GX.2 ⟨kD,λb hb=>?_⟩⟩
  rw[kD]at hb
  refine⟨vS b hb,λg hg=>?_⟩
  rw[VN hc f hb hg];have hcl:=hs.cell hb hg;rw[hgs,hbs,hds];split
  ·rename_i c
   obtain⟨rfl,rfl⟩:g=gs/\b=ds:=by omega
   omega
  ·split
   ·rename_i c
    obtain⟨rfl,rfl⟩:g=gs/\b=bs:=by omega
    unfold bound at hbn
    rw[hgs,hbs]at hge
    omega
   ·omega
 ·show(s.aF.eraseIdx k).length<=8;rw[qC];have:=hs.vJ;split<;>omega
 ·exact aX.1 (dR.1 hs.form).2.2.2.1 x (zK hx)
 ·rw[jfU hc f hg'];exact hr.sum hg'
 ·have hq:=hr.bnd hb' hg';rw[jbs f,VN hc f hb' hg'];rw[hgs,hbs,hds];have hsd:bs≠ds:=by omega
  split
  ·rename_i c
   obtain⟨c1,c2⟩:=c;rw[ay (by omega),aB (by omega)]
   omega
  ·rename_i c
   split<;>omega
theorem TP{k n:Int}(h:(CW p s k n).2=0):aQ p s=0/\∃i:Nat,k=i/\Moves p s i n/\(CW p s k n).1=AQ s i n:=by
 unfold CW at h ⊢
 by_cases h1:aQ p s=0
 ·rw[ay (λhn=>hn h1)]at h ⊢
  cases h2:cZ k 0 (s.aF.length - 1)
  ·rw[h2,aB (by rfl)]at h
   simp at h
  rw[h2,ay (by simp)]at h
  rw[ay (by simp)]
  cases h3:cZ n 0 (bH s.aF k.toNat).n
  ·rw[h3,aB (by rfl)]at h
   simp at h
  rw[h3,ay (by simp)]at h
  rw[ay (by simp)]
  have h2':=dV.1 h2;have h3':=dV.1 h3;by_cases h4:200<cell s.on (bH s.aF k.toNat).dst.toNat (bH s.aF k.toNat).dh.toNat+n
  ·rw[aB h4]at h
   simp at h
  rw[ay h4];exact⟨h1,k.toNat,by omega,⟨by omega,h3'.1,h3'.2,by omega⟩,rfl⟩
 ·rw[aB h1]at h
  exact absurd h h1
end
section
variable {p:dA} {s:aJ} {k n:Int}
theorem jco(h:aQ p s≠0):fill p s=(jD,aQ p s):=by unfold fill;rw[aB h]
theorem jfo(h:aQ p s=0):fill p s=(Oq p s,0):=by unfold fill;rw[ay (λhn=>hn h)]
theorem YJ(h:aQ p s≠0):CW p s k n=(jD,aQ p s):=by unfold CW;rw[aB h]
theorem Qo(h:aQ p s=0)(h2:k<0\/(s.aF.length:Int)<=k):CW p s k n=(jD,4):=by
 unfold CW;rw[ay (λhn=>hn h),nU.2 (by omega)]
 rfl
theorem NI{i:Nat}(h:aQ p s=0)(hi:i<s.aF.length)(h3:n<0\/(bH s.aF i).n<n):CW p s i n=(jD,3):=by
 unfold CW;rw[ay (λhn=>hn h),dV.2 (by omega),ay (by simp),bZ,nU.2 h3]
 rfl
theorem VL{i:Nat}(h:aQ p s=0)(hi:i<s.aF.length)(h3:0<=n/\n<=(bH s.aF i).n)(h4:200<cell s.on (bH s.aF i).dst.toNat (bH s.aF i).dh.toNat+n):CW p s i n=(jD,2):=by
 unfold CW;rw[ay (λhn=>hn h),dV.2 (by omega),ay (by simp),bZ,dV.2 h3,ay (by simp),aB h4]
theorem jbp{i:Nat}(h:aQ p s=0)(f:Moves p s i n):CW p s i n=(AQ s i n,0):=by
 have hk:=f.hk;have h4:=f.full;unfold CW;rw[ay (λhn=>hn h),dV.2 (by omega),ay (by simp),bZ,dV.2 ⟨f.n0,f.n1⟩,ay (by simp),ay (by omega)]
end
section
variable {p:dA} {s:aJ}
def fb(p:dA)(s:aJ)(b:Nat):aJ:=(uT p true b).foldl (λt b=>(List.range p.aP.length).foldl (sW p b) t) s
theorem jop:fb p s p.bQ.length=Oq p s:=by unfold fb Oq;rw[JV]
def fg(p:dA)(s:aJ)(b g:Nat):aJ:=(List.range g).foldl (sW p b) (fb p s b)
theorem jas(b g:Nat):fg p s b (g+1)=sW p b (fg p s b g) g:=by
 unfold fg;rw[lJ,ng];rfl
theorem jjp{b:Nat}(h:(p.bin b).front=true):fb p s (b+1)=fg p s b p.aP.length:=by
 unfold fb fg;rw[EO h,ng];rfl
theorem jmx{b:Nat}(h:(p.bin b).front=false):fb p s (b+1)=fb p s b:=by
 unfold fb;rw[Gi (by unfold dA.bin at h;rw[h];decide)]
def ff(p:dA)(s:aJ)(b g f:Nat):aJ:=(uT p false f).foldl (λt f=>Ie p t b g f) (fg p s b g)
theorem jlp(b g:Nat):ff p s b g 0=fg p s b g:=rfl
theorem jcq{b g f:Nat}(h:(p.bin f).front=true):ff p s b g (f+1)=ff p s b g f:=by
 unfold ff;rw[Gi (by unfold dA.bin at h;rw[h];decide)]
theorem Y3{b g f:Nat}(h:(p.bin f).front=false):ff p s b g (f+1)=Ie p (ff p s b g f) b g f:=by
 unfold ff;rw[EO h,ng];rfl
theorem jjo{b g:Nat}(h:cell (fg p s b g).on b g+iq (fg p s b g) b g<(p.bin b).low):fg p s b (g+1)=ff p s b g p.bQ.length:=by
 rw[jas];unfold sW ff;rw[aB h,JV]
theorem joo{b g:Nat}(h:¬cell (fg p s b g).on b g+iq (fg p s b g) b g<(p.bin b).low):fg p s b (g+1)=fg p s b g:=by
 rw[jas];unfold sW;rw[ay h]
theorem QL{t:aJ}{b g f:Nat}(h:8<=t.aF.length):Ie p t b g f=t:=by unfold Ie;rw[aB h]
theorem WV{t:aJ}{b g f:Nat}(h:¬ 8<=t.aF.length)(h2:0<Hr p t b g f):Ie p t b g f=zC t ⟨g,f,b,Hr p t b g f⟩:=by unfold Ie;rw[ay h,aB h2];rfl
theorem WW{t:aJ}{b g f:Nat}(h:¬ 8<=t.aF.length)(h2:¬ 0<Hr p t b g f):Ie p t b g f=t:=by unfold Ie;rw[ay h,ay h2]
theorem Y4(h:aQ p s=0):∀b,b<=p.bQ.length->wO p s (fb p s b)
 |0,_=>Om h
 |b+1,hb=>by
  have ih:=Y4 h b (by omega)
  cases hf:(p.bin b).front
  ·rw[jmx hf];exact ih
  ·rw[jjp hf];exact QK ih (by omega) hf
theorem Tj(h:aQ p s=0){b:Nat}(hb:b<p.bQ.length)(hf:(p.bin b).front=true):∀g,g<=p.aP.length->wO p s (fg p s b g)
 |0,_=>Y4 h b (by omega)
 |g+1,hg=>by
  rw[jas];exact Oo (Tj h hb hf g (by omega)) hb (by omega) hf
theorem Y2(h:aQ p s=0){b g:Nat}(hb:b<p.bQ.length)(hf:(p.bin b).front=true)(hg:g<p.aP.length):∀f,f<=p.bQ.length->wO p s (ff p s b g f)
 |0,_=>Tj h hb hf g (by omega)
 |f+1,hl=>by
  have ih:=Y2 h hb hf hg f (by omega)
  cases Xu:(p.bin f).front
  ·rw[Y3 Xu];exact QJ ih hb hg (by omega) hf Xu
  ·rw[jcq Xu];exact ih
end
end Wh
