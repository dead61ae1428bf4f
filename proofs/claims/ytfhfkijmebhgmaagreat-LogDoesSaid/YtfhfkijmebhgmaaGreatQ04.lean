/- Texts of the claim, joined. -/
import Derived.Test.YtfhfkijmebhgmaaGreatQ03
set_option maxHeartbeats 20000000
set_option maxRecDepth 100000
namespace Wh
structure Taken (p:Plan) (S:Nat→Nat→Prop) (s t:State):Prop where
 right:Right p t
 on:t.on=s.on
 moves:t.moves=s.moves
 inn:t.inn=s.inn
 out:t.out=s.out
 fixed:t.fixed=s.fixed
 orders:t.orders.length=s.orders.length
 kind:∀ o,(t.order o).kind=(s.order o).kind
 lines:∀ o,(t.order o).lines.length=(s.order o).lines.length
 line:∀ o k,(t.line o k).good=(s.line o k).good∧(t.line o k).want=(s.line o k).want∧(t.line o k).got=(s.line o k).got
 less:∀ b g:Int,fC t b g≤fC s b g
 back:∀ o k,¬ S o k→(t.line o k).back=(s.line o k).back
 kept:∀ o k:Nat,¬ S o k→Wh.kept t.holds o k=Wh.kept s.holds o k
 done:∀ o k,S o k→o<s.orders.length→k<(s.order o).lines.length→(s.order o).kind=1→0<(t.line o k).back→∀ b,b<p.aH.length→fC t b (s.line o k).good=0
 none:∀ o k,S o k→o<s.orders.length→k<(s.order o).lines.length→(∀ b:Nat,b<p.aH.length→fC s b (s.line o k).good=0)→Wh.kept t.holds o k=Wh.kept s.holds o k
theorem QO {p:Plan} {s:State} (h:Right p s) {o k b:Nat} (ho:o<s.orders.length) (hk:k<(s.order o).lines.length) (hb:b<p.aH.length):0≤fC s b (s.line o k).good:=by
 have h1:=(h.sane.line ho hk).1;obtain ⟨g,hg⟩:∃ g:Nat,(s.line o k).good=g:=⟨(s.line o k).good.toNat,by omega⟩
 rw [hg] at h1 ⊢
 exact (h.IL hb (by omega)).1
namespace Taken
variable {p:Plan} {S S':Nat→Nat→Prop} {s t u:State}
theorem same (h:Right p s) (hS:∀ o k,S o k→o<s.orders.length→k<(s.order o).lines.length→(s.order o).kind≠1):Taken p S s s:=
 ⟨h,rfl,rfl,rfl,rfl,rfl,rfl,fun _=>rfl,fun _=>rfl,fun _ _=>⟨rfl,rfl,rfl⟩,fun _ _=>jI _,fun _ _ _=>rfl,fun _ _ _=>rfl,fun o k hs ho hk hkd=>absurd hkd (hS o k hs ho hk),fun _ _ _ _ _ _=>rfl⟩
theorem mono (h:Taken p S s t) (h1:∀ o k,S o k→S' o k) (h2:∀ o k,o<s.orders.length→k<(s.order o).lines.length→S' o k→S o k):Taken p S' s t:=
 {h with back:=fun o k hn=>h.back o k fun hs=>hn (h1 o k hs),kept:=fun o k hn=>h.kept o k fun hs=>hn (h1 o k hs),done:=fun o k hs ho hk=>h.done o k (h2 o k ho hk hs) ho hk,none:=fun o k hs ho hk=>h.none o k (h2 o k ho hk hs) ho hk}
theorem trans (h:Taken p S s t) (h':Taken p S' t u) (hd:∀ o k,S o k→S' o k→False):Taken p (fun o k=>S o k∨S' o k) s u:=by
 refine ⟨h'.right,h'.on.trans h.on,h'.moves.trans h.moves,h'.inn.trans h.inn,h'.out.trans h.out,h'.fixed.trans h.fixed,h'.orders.trans h.orders,fun o=>(h'.kind o).trans (h.kind o),fun o=>(h'.lines o).trans (h.lines o),fun o k=>?_,
  fun b g=>GL (h'.less b g) (h.less b g),fun o k hn=>?_,fun o k hn=>?_,fun o k hs ho hk hkd hb b hbn=>?_,fun o k hs ho hk hz=>?_⟩
 ·obtain ⟨a1,a2,a3⟩:=h.line o k;obtain ⟨b1,b2,b3⟩:=h'.line o k;exact ⟨b1.trans a1,b2.trans a2,b3.trans a3⟩
 ·exact (h'.back o k fun hs=>hn (.inr hs)).trans (h.back o k fun hs=>hn (.inl hs))
 ·exact (h'.kept o k fun hs=>hn (.inr hs)).trans (h.kept o k fun hs=>hn (.inl hs))
 ·have ho':o<t.orders.length:=by rw [h.orders];exact ho
  have hk':k<(t.order o).lines.length:=by rw [h.lines];exact hk
  rcases hs with hs|hs
  ·rw [h'.back o k (hd o k hs)] at hb
   have h1:=h.done o k hs ho hk hkd hb b hbn;have h2:=h'.less b (s.line o k).good;have h3:=QO h'.right (o:=o) (k:=k) (b:=b) (by rw [h'.orders];exact ho') (by rw [h'.lines];exact hk') hbn
   rw [(h'.line o k).1,(h.line o k).1] at h3
   omega
  ·have:=h'.done o k hs ho' hk' (by rw [h.kind];exact hkd) hb b hbn
   rwa [(h.line o k).1] at this
 ·have ho':o<t.orders.length:=by rw [h.orders];exact ho
  have hk':k<(t.order o).lines.length:=by rw [h.lines];exact hk
  rcases hs with hs|hs
  ·exact (h'.kept o k (hd o k hs)).trans (h.none o k hs ho hk hz)
  ·rw [h'.none o k hs ho' hk' (fun b hbn=>by
    have h1:=hz b hbn;have h2:=h.less b (s.line o k).good;have h3:=QO h.right ho' hk' hbn;rw [(h.line o k).1] at h3 ⊢
    omega)]
   exact h.kept o k fun hs'=>hd o k hs' hs
end Taken
theorem G6 {o k:Nat} {but:Int}:∀ {bs:List Nat} {s:State} {n:Int},(∀ b∈bs,fC s b (s.line o k).good=0)→kJ o k but bs s n=(s,n)
 |[],_,_,_=>rfl
 |b::r,s,n,h=>by
  have:=h b (iK ..);rw [pz (.inr (by omega)),G6 fun x hx=>h x (fA _ hx)]
theorem Uw {p:Plan} {s:State} (h:Right p s) {o k:Nat} (ho:o<s.orders.length) (hk:k<(s.order o).lines.length) (hkd:(s.order o).kind=1):May s o k (s.line o k).back:=
 ⟨ho,hk,hkd,(h.sane.line ho hk).2.2.2.1,jI _⟩
theorem Tt {p:Plan} {s:State} {o k:Nat} (h:Right p s) (ho:o<s.orders.length) (hk:k<(s.order o).lines.length) (hkd:(s.order o).kind=1):Taken p (fun o' k'=>o'=o∧k'=k) s (IY p s o k):=by
 have hm:=Uw h ho hk hkd;obtain ⟨h1,h2,h3⟩:=JW (but:=-1) h hm;change Held p s (IY p s o k) o k _ at h1
 have hbk:((IY p s o k).line o k).back=(ji p s o k (s.line o k).back (-1)).2:=by
  rw [h1.back,ak ⟨rfl,rfl⟩];omega
 refine ⟨h1.right,h1.on,h1.moves,h1.inn,h1.out,h1.fixed,h1.orders,h1.kind,h1.lines,h1.line,h1.jhi,fun o' k' hn=>?_,fun o' k' hn=>?_,fun o' k' hs ho' hk' Nv hb b hbn=>?_,fun o' k' hs ho' hk' hz=>?_⟩
 ·rw [h1.back,ah hn,yX]
 ·rw [h1.kept,ah (by omega),mM]
 ·obtain ⟨rfl,rfl⟩:=hs;exact Qk (but:=-1) h hm (by rw [← hbk];exact hb) hbn (by omega)
 ·obtain ⟨rfl,rfl⟩:=hs;have:IY p s o' k'=s:=by
   unfold IY ji;rw [G6 (fun b hb=>hz b (BK p b hb))]
  rw [this]
theorem zG {p:Plan} {s:State} {o:Nat} (h:Right p s) (ho:o<s.orders.length) (hkd:(s.order o).kind=1):∀ n,n≤(s.order o).lines.length→Taken p (fun o' k'=>o'=o∧k'<n) s (Aj p o n s)
 |0,_=>(Taken.same (S:=fun o' k'=>o'=o∧k'<0) h fun _ _ hs=>by omega)
 |n+1,hn=>by
  have h1:=zG h ho hkd n (by omega)
  have h2:=Tt h1.right (o:=o) (k:=n) (by rw [h1.orders];exact ho) (by rw [h1.lines];omega) (by rw [h1.kind];exact hkd)
  exact (h1.trans h2 (fun o' k' hs hs'=>by omega)).mono (fun o' k' hs=>by omega) (fun o' k' _ _ hs=>by omega)
theorem OD {p:Plan} {s:State} {o:Nat} (h:Right p s) (ho:o<s.orders.length):Taken p (fun o' _=>o'=o) s (xR p s o):=by
 unfold xR;split
 ·rename_i hkd
  exact (zG h ho hkd _ (aA _)).mono (fun o' k' hs=>hs.1) (fun o' k' _ hk hs=>⟨hs,by rw [hs] at hk;exact hk⟩)
 ·rename_i hkd
  exact Taken.same h fun o' k' hs _ _=>by rw [hs];exact hkd
theorem sW {p:Plan} {s:State} (h:Right p s):∀ n,n≤s.orders.length→Taken p (fun o _=>o<n) s (dH p n s)
 |0,_=>(Taken.same (S:=fun o _=>o<0) h fun _ _ hs=>by omega)
 |n+1,hn=>by
  have h1:=sW h n (by omega)
  have h2:=OD h1.right (o:=n) (by rw [h1.orders];omega)
  exact (h1.trans h2 (fun o' k' hs hs'=>by omega)).mono (fun o' k' hs=>by omega) (fun o' k' _ _ hs=>by omega)
def fQ (s:State):State:={s with orders:=s.orders.map freed}
theorem Ij (s:State) (o:Nat) (ho:o<s.orders.length):(fQ s).order o=freed (s.order o):=by
 unfold State.order ay fQ;simp [ho]
theorem yA (s:State) {o k:Nat} (ho:o<s.orders.length) (hk:k<(s.order o).lines.length):(fQ s).line o k=if (s.order o).kind=0 then {s.line o k with back:=(s.line o k).want} else s.line o k:=by
 unfold State.line;rw [Ij s o ho];unfold freed;split
 ·rw [iZ (by simpa using hk),iZ hk]
  simp
 ·rfl
theorem qC (s:State) {o:Nat} (ho:o<s.orders.length):((fQ s).order o).lines.length=(s.order o).lines.length:=by
 rw [Ij s o ho];unfold freed;split
 ·simp
 ·rfl
theorem KA (s:State) {o:Nat} (ho:o<s.orders.length):((fQ s).order o).kind=if (s.order o).kind=0 then 1 else (s.order o).kind:=by
 rw [Ij s o ho];unfold freed;split<;>rfl
theorem nS (s:State):(fQ s).orders.length=s.orders.length:=by simp [fQ]
theorem Dx {p:Plan} {s:State} (h:checkState p s=0):checkState p (fQ s)=0:=by
 obtain ⟨hr,DU⟩:=iE.1 h;have hs:=hr.sane;have hbound:∀ b g:Int,bound (fQ s) b g=bound s b g:=fun b g=>by
  unfold bound;have:iO (fQ s) b g=iO s b g:=Kt (s:=s) (t:=fQ s) rfl (fun x hx=>by
   obtain ⟨i,hi,rfl⟩:=cZ hx;have:=hs.oP hi;rw [bV hi] at this
   rw [yA s (by omega) (by omega)]
   split<;>rfl) b g
  rw [this];rfl
 refine iE.2 ⟨Right.of (iI.of hs.shelf (by rw [nS];exact hs.jh) hs.lJ (fun o ho=>?_) (fun o k ho hk=>?_) hs.holds (fun x hx=>?_) (fun x hx=>bY.1 (aS.1 hs.form).2.2.2.1 x hx)
  (aS.1 hs.form).2.2.2.2.1 (aS.1 hs.form).2.2.2.2.2.1 (aS.1 hs.form).2.2.2.2.2.2) (fun g hg=>hr.sum hg) (fun b g hb hg=>by rw [hbound];exact hr.bnd hb hg) (fun o k ho hk=>?_),fun o ho hh=>?_⟩
 ·rw [nS] at ho
  rw [qC s ho,KA s ho];refine ⟨hs.jX ho,?_⟩
  have:=hs.kind ho;split<;>omega
 ·rw [nS] at ho
  rw [qC s ho] at hk
  rw [yA s ho hk];have h1:=hs.line ho hk;split
  ·exact jF.2 ⟨h1.1,h1.2.1,h1.2.2.1,by simp only;omega⟩
  ·exact jF.2 h1
 ·have h1:=ig.1 (bY.1 (aS.1 hs.form).2.2.1 x hx);have hx':x∈s.holds:=hx;obtain ⟨i,hi,rfl⟩:=cZ hx';have:=(hs.oP hi).1;rw [bV hi] at this
  refine ig.2 ⟨by rw [nS];exact h1.1,?_,h1.2.2⟩
  rw [qC s (by omega)]
  exact h1.2.1
 ·rw [nS] at ho
  rw [qC s ho] at hk
  have h1:=hr.qI ho hk;have h2:=hs.line ho hk;have h3:=(lK hs.holds o k).1;refine kP.2 ?_
  rw [yA s ho hk,KA s ho];by_cases hz:(s.order o).kind=0
  ·rw [ak hz,ak hz,ah (by omega)]
   rw [ak hz] at h1
   have e:kept (fQ s).holds o k=kept s.holds o k:=rfl;rw [e];simp only;omega
  ·rw [ah hz,ah hz];exact h1
 ·rw [nS] at ho
  rw [KA s ho,oI,qC s ho] at hh
  obtain ⟨h1,h2⟩:=hh;by_cases hz:(s.order o).kind=0
  ·have hl:=hs.jX ho;have h3:=h2 0 (by omega)
   have h4:=yA s (o:=o) (k:=0) ho (by omega)
   rw [ak hz] at h4
   have h5:bH ((fQ s).order o).lines 0=(fQ s).line o 0:=rfl;rw [h5,h4] at h3
   have h6:=(hr.qI (o:=o) (k:=0) ho (by omega)).1
   rw [ak hz] at h6
   have h7:=hs.line (o:=o) (k:=0) ho (by omega)
   have h8:=(lK hs.holds o (0:Nat)).1;simp only at h3
   omega
  ·rw [ah hz] at h1
   refine DU o ho ⟨h1,oI.2 fun k hk=>?_⟩
   have h3:=h2 k hk;have h4:=yA s (o:=o) (k:=k) ho hk;rw [ah hz] at h4
   have h5:bH ((fQ s).order o).lines k=(fQ s).line o k:=rfl;rw [h5,h4] at h3
   exact h3
theorem yG {p:Plan} {s:State} (h:checkState p s=0):Taken p (fun o _=>o<s.orders.length) (fQ s) (uN p s):=
 sW (cO (Dx h)) _ (by rw [nS];exact aA _)
theorem Yb {p:Plan} {S:Nat→Nat→Prop} {s t:State} (h:Taken p S s t) (hs:checkState p s=0):checkState p t=0:=by
 refine iE.2 ⟨h.right,fun o ho=>?_⟩
 rw [h.orders] at ho
 have:=(iE.1 hs).2 o ho;rw [h.kind];rintro ⟨h1,h2⟩;refine this ⟨h1,oI.2 fun k hk=>?_⟩
 have h3:=oI.1 h2 k (by rw [h.lines];exact hk)
 have h4:=h.line o k;unfold State.line at h4
 rw [h4.2.1,h4.2.2] at h3
 exact h3
theorem TF {p:Plan} {s:State} (h:checkState p s=0):checkState p (uN p s)=0:=Yb (yG h) (Dx h)
theorem Ym {p:Plan} {s:State} (h:checkState p s=0):(uN p s).orders.length=s.orders.length:=by rw [(yG h).orders,nS]
theorem TD {p:Plan} {s:State} (h:checkState p s=0) {o:Nat} (ho:o<s.orders.length):((uN p s).order o).lines.length=(s.order o).lines.length:=by rw [(yG h).lines,qC s ho]
theorem Q8 {l:List Hold} (P:Hold→Bool) (h:bQ l=true):bQ (l.filter P)=true:=by
 obtain ⟨h1,h2⟩:=bC.1 h;exact bC.2 ⟨fun x hx=>h1 x (qP.1 hx).1,h2.sublist List.filter_sublist⟩
theorem YW (l:List Hold) (o:Nat) (o' k':Int):kept (l.filter fun h=>decide (h.order≠o)) o' k'=if o'=(o:Int) then 0 else kept l o' k':=by
 unfold kept;rw [List.filter_filter];split
 ·rename_i e
  rw [filter_none]
  ·rfl
  ·intro x _;unfold qV;subst e;by_cases hx:x.order=(o:Int)<;>simp [hx]
 ·rename_i e
  congr 2
  apply List.filter_congr;intro x _;unfold qV;by_cases hx:x.order=o'
  ·have:x.order≠(o:Int):=by rw [hx];exact e
   simp [hx,e]
  ·simp [hx]
theorem Qn {f:Hold→Int} (P:Hold→Bool):∀ {l:List Hold},(∀ x∈l,0≤f x)→0≤((l.filter P).map f).sum∧((l.filter P).map f).sum≤(l.map f).sum
 |[],_=>by simp
 |x::l,h=>by
  have h1:=Qn P (l:=l) fun y hy=>h y (fA _ hy)
  have h2:=h x (iK ..);rw [uI];split
  ·rw [dP,kE,dP,kE];omega
  ·rw [dP,kE];omega
theorem xA {s:State} {o:Nat} (ho:o<s.orders.length) (o':Nat):(nO s o).order o'=if o'=o then ⟨2,(s.order o).lines.map fun x=>{x with back:=x.want - x.got}⟩ else s.order o':=vZ ho _ _
theorem vK (s:State) (o:Nat):(nO s o).orders.length=s.orders.length:=by simp [nO]
theorem xB {s:State} {o:Nat} (ho:o<s.orders.length) (o':Nat):((nO s o).order o').lines.length=(s.order o').lines.length:=by
 rw [xA ho];split
 ·rename_i e
  subst e;simp
 ·rfl
theorem DI {s:State} {o:Nat} (ho:o<s.orders.length) {o' k':Nat} (hk:k'<(s.order o').lines.length):(nO s o).line o' k'=if o'=o then {s.line o' k' with back:=(s.line o' k').want - (s.line o' k').got} else s.line o' k':=by
 unfold State.line;rw [xA ho];split
 ·rename_i e
  subst e;rw [iZ (by simpa using hk),iZ hk]
  simp
 ·rfl
theorem Xe {p:Plan} {s:State} {o:Nat} (h:checkState p s=0) (ho:o<s.orders.length):checkState p (nO s o)=0:=by
 obtain ⟨hr,DU⟩:=iE.1 h;have hs:=hr.sane;have hbound:∀ b g:Int,bound (nO s o) b g≤bound s b g:=fun b g=>by
  have e:iO (nO s o) b g=iO {s with holds:=s.holds.filter fun h=>decide (h.order≠o)} b g:=Kt (s:={s with holds:=s.holds.filter fun h=>decide (h.order≠o)}) (t:=nO s o) rfl (fun x hx=>by
   have hx':=(qP.1 hx).1;obtain ⟨i,hi,rfl⟩:=cZ hx';have:=hs.oP hi;rw [bV hi] at this
   rw [DI ho (by omega)]
   split<;>rfl) b g
  have e2:iO {s with holds:=s.holds.filter fun h=>decide (h.order≠o)} b g≤iO s b g:=(Qn (f:=mZ s b g) _ fun x hx=>by
   have:=(gG.1 ((bC.1 hs.holds).1 x hx)).2;unfold mZ;split<;>omega).2
  unfold bound;rw [e];have:(nO s o).moves=s.moves:=rfl;rw [this];omega
 refine iE.2 ⟨Right.of (iI.of hs.shelf (by rw [vK];exact hs.jh) hs.lJ (fun o' ho'=>?_) (fun o' k ho' hk=>?_) (Q8 _ hs.holds) (fun x hx=>?_) (fun x hx=>bY.1 (aS.1 hs.form).2.2.2.1 x hx)
  (aS.1 hs.form).2.2.2.2.1 (aS.1 hs.form).2.2.2.2.2.1 (aS.1 hs.form).2.2.2.2.2.2) (fun g hg=>hr.sum hg) (fun b g hb hg=>GL (hbound b g) (hr.bnd hb hg)) (fun o' k ho' hk=>?_),fun o' ho' hh=>?_⟩
 ·rw [vK] at ho'
  rw [xB ho];refine ⟨hs.jX ho',?_⟩
  rw [xA ho];split
  ·simp only;omega
  ·exact hs.kind ho'
 ·rw [vK] at ho'
  rw [xB ho] at hk
  rw [DI ho hk];have h1:=hs.line ho' hk;split
  ·exact jF.2 ⟨h1.1,h1.2.1,h1.2.2.1,by simp only;omega⟩
  ·exact jF.2 h1
 ·have hx':=(qP.1 hx).1;have h1:=ig.1 (bY.1 (aS.1 hs.form).2.2.1 x hx');refine ig.2 ⟨by rw [vK];exact h1.1,?_,h1.2.2⟩
  rw [xB ho];exact h1.2.1
 ·rw [vK] at ho'
  rw [xB ho] at hk
  have h1:=hr.qI ho' hk;have h2:=hs.line ho' hk;have e:kept (nO s o).holds o' k=if (o':Int)=(o:Int) then 0 else kept s.holds o' k:=YW _ _ _ _
  refine kP.2 ?_
  rw [DI ho hk,xA ho,e];by_cases he:o'=o
  ·subst he;rw [ak rfl,ak rfl,ak rfl];simp only;rw [ah (by omega)]
   omega
  ·rw [ah he,ah he,ah (by omega)]
   exact h1
 ·rw [vK] at ho'
  rw [xA ho] at hh
  split at hh
  ·exact absurd hh.1 (by simp only;omega)
  ·exact DU o' ho' hh
theorem MW {p:Plan} {s:State} {o:Int} (h:(cancel p s o).2=0):checkState p s=0∧∃ i:Nat,o=i∧i<s.orders.length∧(s.order i).kind≠2∧(cancel p s o).1=nO s i:=by
 unfold cancel at h ⊢
 by_cases h1:checkState p s=0
 ·rw [ah (fun hn=>hn h1)] at h ⊢
  cases h2:within o 0 (s.orders.length - 1)
  ·rw [h2,ak (by rfl)] at h
   simp at h
  ·rw [h2,ah (by simp)] at h
   have h3:=within_iff.1 h2;by_cases h4:(s.order o.toNat).kind=2
   ·rw [ak h4] at h
    simp at h
   ·refine ⟨h1,o.toNat,by omega,by omega,h4,?_⟩
    rw [ah (by simp),ah h4]
 ·rw [ak h1] at h
  exact absurd h h1
theorem Jz {p:Plan} {s:State} (h:(release p s).2=0):checkState p s=0∧(release p s).1=uN p s:=by
 unfold release at h ⊢
 by_cases h1:checkState p s=0
 ·rw [ah (fun hn=>hn h1)]
  exact ⟨h1,rfl⟩
 ·rw [ak h1] at h
  exact absurd h h1
def fl (o:Order) (k:Nat):Order:=⟨1,(o.lines.take k).map (fun x=>{x with back:=x.want})++o.lines.drop k⟩
def jZ (s:State) (n:Nat):State:={s with orders:=(s.orders.take n).map freed++s.orders.drop n}
def sS (s:State) (n k:Nat):State:={s with orders:=(jZ s n).orders.set n (fl (s.order n) k)}
section
variable {s:State} {n k:Nat}
theorem Oh (s:State):jZ s 0=s:=by simp [jZ]
theorem RJ (s:State):jZ s s.orders.length=fQ s:=by simp [jZ,fQ]
theorem vF (s:State) (n:Nat):(jZ s n).orders.length=s.orders.length:=by
 unfold jZ;simp only [dK,kF,dS,jT];omega
theorem Ae (hn:n<s.orders.length):(jZ s n).order n=s.order n:=by
 unfold State.order ay jZ;simp only [List.getD];rw [yT (by simp;omega)]
 simp [pW (nD hn)]
theorem Oi (hn:n<s.orders.length):jZ s (n+1)={s with orders:=(jZ s n).orders.set n (freed (s.order n))}:=by
 have e:s.order n=s.orders[n]:=kM hn;unfold jZ;rw [e,l9 hn,jl,jo];congr 1
 have h1:((s.orders.take n).map freed).length=n:=by simp;omega
 rw [Bd _ _ (by omega),h1,AY,wO hn]
 rfl
theorem ZA (hn:n<s.orders.length):(jZ s n).orders.set n (s.order n)=(jZ s n).orders:=by
 rw [← Ae hn];unfold State.order;rw [kM (by rw [vF];exact hn),List.set_getElem_self]
theorem Oj (hn:n<s.orders.length) (hk:(s.order n).kind≠0):jZ s (n+1)=jZ s n:=by
 rw [Oi hn];have:freed (s.order n)=s.order n:=by unfold freed;rw [ah hk]
 rw [this,ZA hn];rfl
theorem jiI (o:Order):fl o 0={o with kind:=1}:=by simp [fl]
theorem jlB (o:Order) (hk:o.kind=0):fl o o.lines.length=freed o:=by
 unfold fl freed;rw [ak hk];simp
theorem jlA (o:Order) (k:Nat):(fl o k).lines.length=o.lines.length:=by
 unfold fl;simp only [dK,kF,dS,jT];omega
theorem jiK {o:Order} {k:Nat} (hk:k<o.lines.length):bH (fl o k).lines k=bH o.lines k:=by
 unfold fl bH;simp only [List.getD];rw [yT (by simp;omega)]
 simp [pW (nD hk)]
theorem jiJ {o:Order} {k:Nat} (hk:k<o.lines.length):fl o (k+1)={fl o k with lines:=(fl o k).lines.set k {bH o.lines k with back:=(bH o.lines k).want}}:=by
 have e:bH o.lines k=o.lines[k]:=iZ hk;unfold fl;rw [e,l9 hk,jl,jo];congr 1
 have h1:((o.lines.take k).map fun x=>({x with back:=x.want}:Line)).length=k:=by simp;omega
 rw [Bd _ _ (by omega),h1,AY,wO hk]
 rfl
theorem Ol (hn:n<s.orders.length):({jZ s n with orders:=(jZ s n).orders.set n {(jZ s n).order n with kind:=1}}:State)=sS s n 0:=by
 unfold sS;rw [jiI,Ae hn];rfl
theorem Cj:(sS s n k).orders.length=s.orders.length:=by
 unfold sS;rw [pY,vF]
theorem FM (hn:n<s.orders.length):(sS s n k).order n=fl (s.order n) k:=by
 have:=vZ (l:=(jZ s n).orders) (o:=n) (by rw [vF];exact hn) (fl (s.order n) k) n
 rw [ak rfl] at this
 exact this
theorem tV (hn:n<s.orders.length):((sS s n k).order n).lines.length=(s.order n).lines.length:=by rw [FM hn,jlA]
theorem Dy (hn:n<s.orders.length) (hk:k<(s.order n).lines.length):(sS s n k).line n k=s.line n k:=by
 unfold State.line;rw [FM hn,jiK hk]
theorem Om (hn:n<s.orders.length) (hk:k<(s.order n).lines.length):(sS s n k).fG n k {s.line n k with back:=(s.line n k).want}=sS s n (k+1):=by
 unfold State.fG;rw [FM hn];have e:s.line n k=bH (s.order n).lines k:=rfl;rw [e,← jiJ hk];show ({s with orders:=((jZ s n).orders.set n (fl (s.order n) k)).set n (fl (s.order n) (k+1))}:State)=_
 rw [PD];rfl
theorem RN (hn:n<s.orders.length) (hk:(s.order n).kind=0):sS s n (s.order n).lines.length=jZ s (n+1):=by
 unfold sS;rw [jlB _ hk,Oi hn]
def uO (p:Plan) (s:State) (n k:Nat):State:=Aj p n k (dH p n (fQ s))
theorem Fb {p:Plan} (h:checkState p s=0) (hn:n<s.orders.length) (hkd:((dH p n (fQ s)).order n).kind=1) (hk:k≤(s.order n).lines.length):
  Right p (uO p s n k)∧(uO p s n k).orders.length=s.orders.length∧(∀ o,((uO p s n k).order o).kind=((dH p n (fQ s)).order o).kind)∧((uO p s n k).order n).lines.length=(s.order n).lines.length:=by
 have hf:=cO (Dx h);have h1:=sW hf n (by rw [nS];omega)
 have hl:((dH p n (fQ s)).order n).lines.length=(s.order n).lines.length:=by rw [h1.lines,qC s hn]
 have h2:=zG h1.right (o:=n) (by rw [h1.orders,nS];exact hn) hkd k (by rw [hl];exact hk)
 exact ⟨h2.right,by rw [show uO p s n k=Aj p n k (dH p n (fQ s)) from rfl,h2.orders,h1.orders,nS],h2.kind,by rw [show uO p s n k=Aj p n k (dH p n (fQ s)) from rfl,h2.lines,hl]⟩
theorem Yp {p:Plan} (h:checkState p s=0) (hn:n<s.orders.length) (hkd:((dH p n (fQ s)).order n).kind=1) (hk:k<(s.order n).lines.length):May (uO p s n k) n k ((uO p s n k).line n k).back:=by
 obtain ⟨h1,h2,h3,h4⟩:=Fb h hn hkd (nD hk);exact Uw h1 (by rw [h2];exact hn) (by rw [h4];exact hk) (by rw [h3];exact hkd)
theorem Fa {p:Plan} (h:checkState p s=0) (hn:n≤s.orders.length):Right p (dH p n (fQ s))∧(dH p n (fQ s)).orders.length=s.orders.length∧∀ o,o<s.orders.length→((dH p n (fQ s)).order o).lines.length=(s.order o).lines.length:=by
 have hf:=cO (Dx h);have h1:=sW hf n (by rw [nS];omega)
 exact ⟨h1.right,by rw [h1.orders,nS],fun o ho=>by rw [h1.lines,qC s ho]⟩
theorem Yo {p:Plan} (h:checkState p s=0) (hn:n<s.orders.length) (hkd:((dH p n (fQ s)).order n).kind=1):uO p s n (s.order n).lines.length=dH p (n+1) (fQ s):=by
 show _=xR p (dH p n (fQ s)) n;unfold xR;rw [ak hkd,(Fa h (nD hn)).2.2 n hn];rfl
theorem jco {p:Plan} (hkd:((dH p n (fQ s)).order n).kind≠1):dH p (n+1) (fQ s)=dH p n (fQ s):=by
 show xR p (dH p n (fQ s)) n=_;unfold xR;rw [ah hkd]
end
section
variable {p:Plan} {s:State} {o:Int}
theorem NV (h:checkState p s≠0):release p s=(dJ,checkState p s):=by unfold release;rw [ak h]
theorem Qv (h:checkState p s=0):release p s=(uN p s,0):=by unfold release;rw [ah (fun hn=>hn h)]
theorem SG (h:checkState p s≠0):cancel p s o=(dJ,checkState p s):=by unfold cancel;rw [ak h]
theorem IJ (h:checkState p s=0) (h2:o<0∨(s.orders.length:Int)≤o):cancel p s o=(dJ,4):=by
 unfold cancel;rw [ah (fun hn=>hn h),gY.2 (by omega)]
 rfl
theorem Ox {i:Nat} (h:checkState p s=0) (hi:i<s.orders.length) (hk:(s.order i).kind=2):cancel p s i=(dJ,6):=by
 unfold cancel;rw [ah (fun hn=>hn h),within_iff.2 (by omega),ah (by simp),eH,ak hk]
theorem Vg {i:Nat} (h:checkState p s=0) (hi:i<s.orders.length) (hk:(s.order i).kind≠2):cancel p s i=(nO s i,0):=by
 unfold cancel;rw [ah (fun hn=>hn h),within_iff.2 (by omega),ah (by simp),eH,ah hk]
end
def uj (o:Order) (k:Nat):List Line:=(o.lines.take k).map (fun x=>{x with back:=x.want - x.got})++o.lines.drop k
theorem ZW (o:Order):uj o 0=o.lines:=by simp [uj]
theorem jb7 (o:Order):uj o o.lines.length=o.lines.map fun x=>{x with back:=x.want - x.got}:=by simp [uj]
theorem jb6 (o:Order) (k:Nat):(uj o k).length=o.lines.length:=by
 unfold uj;simp only [dK,kF,dS,jT];omega
theorem ZY {o:Order} {k:Nat} (hk:k<o.lines.length):bH (uj o k) k=bH o.lines k:=by
 unfold uj bH;simp only [List.getD];rw [yT (by simp;omega)]
 simp [pW (nD hk)]
theorem ZX {o:Order} {k:Nat} (hk:k<o.lines.length):uj o (k+1)=(uj o k).set k {bH o.lines k with back:=(bH o.lines k).want - (bH o.lines k).got}:=by
 have e:bH o.lines k=o.lines[k]:=iZ hk;unfold uj;rw [e,l9 hk,jl,jo];have h1:((o.lines.take k).map fun x=>({x with back:=x.want - x.got}:Line)).length=k:=by simp;omega
 rw [Bd _ _ (by omega),h1,AY,wO hk]
 rfl
def xC (s:State) (l:List Hold) (i k:Nat):State:={s with holds:=l,orders:=s.orders.set i ⟨2,uj (s.order i) k⟩}
section
variable {s:State} {l:List Hold} {i k:Nat}
theorem SH:({s with holds:=l,orders:=s.orders.set i {s.order i with kind:=2}}:State)=xC s l i 0:=by
 unfold xC;rw [ZW]
theorem ER:(xC s l i k).orders.length=s.orders.length:=by unfold xC;rw [pY]
theorem IK (hi:i<s.orders.length):(xC s l i k).order i=⟨2,uj (s.order i) k⟩:=by
 have:=vZ (l:=s.orders) hi ⟨2,uj (s.order i) k⟩ i;rw [ak rfl] at this
 exact this
theorem wE (hi:i<s.orders.length):((xC s l i k).order i).lines.length=(s.order i).lines.length:=by rw [IK hi,jb6]
theorem FW (hi:i<s.orders.length) (hk:k<(s.order i).lines.length):(xC s l i k).line i k=s.line i k:=by
 unfold State.line;rw [IK hi,ZY hk]
theorem SI (hi:i<s.orders.length) (hk:k<(s.order i).lines.length):(xC s l i k).fG i k {s.line i k with back:=(s.line i k).want - (s.line i k).got}=xC s l i (k+1):=by
 unfold State.fG;rw [IK hi];have e:s.line i k=bH (s.order i).lines k:=rfl;rw [e];show ({s with holds:=l,orders:=(s.orders.set i ⟨2,uj (s.order i) k⟩).set i ⟨2,(uj (s.order i) k).set k _⟩}:State)=_
 rw [PD,← ZX hk];rfl
theorem Vh:xC s (s.holds.filter fun h=>decide (h.order≠i)) i (s.order i).lines.length=nO s i:=by
 unfold xC nO;rw [jb7]
end
def preS (s:State) (o k b:Nat) (n:Int):State:=
 {s with on:=setCell s.on b (s.line o k).good.toNat (cell s.on b (s.line o k).good.toNat - n),out:=s.out.set (s.line o k).good.toNat (aC s.out (s.line o k).good.toNat+n),holds:=dA s.holds ⟨o,k,b,0⟩}
theorem UC (s:State) (o k b:Nat) (held n:Int):picked s o k b held n=(preS s o k b n).fG o k {s.line o k with got:=(s.line o k).got+n,back:=(s.line o k).back+held - n}:=rfl
structure xH (p:Plan) (s:State) (o k b:Nat) (n:Int):Prop where
 ho:o<s.orders.length
 hk:k<(s.order o).lines.length
 hb:b<p.aH.length
 held:1≤aF s.holds o k b
 n0:0≤n
 n1:n≤aF s.holds o k b
 out:aC s.out (s.line o k).good.toNat+n≤1048576
section
variable {p:Plan} {s:State} {o k b:Nat} {n:Int}
theorem Dt {l:List Hold} (hl:bQ l=true) (o ln:Int) (b:Nat):aF l o ln b≤kept l o ln:=by
 by_cases hb:b<6
 ·rw [yc hl];have h0:∀ i,i<6→0≤aF l o ln i:=fun i _=>Ey hl _ _ _
  have:∀ m,b<m→m≤6→aF l o ln b≤sumTo (fun i=>aF l o ln i) m:=by
   intro m;induction m with
   |zero=>intro h;omega
   |succ m ih=>
    intro h h6;have hs:∀ q,q≤6→0≤sumTo (fun i=>aF l o ln i) q:=by
     intro q;induction q with
     |zero=>intro _;exact jI _
     |succ q ih=>intro hq;have:=ih (by omega);have:=h0 q (by omega);show 0≤sumTo (fun i=>aF l o ln i) q+aF l o ln q;omega
    show _≤sumTo _ m+aF l o ln m;by_cases e:b=m
    ·subst e;have:=hs b (by omega)
     omega
    ·have:=ih (by omega) (by omega)
     have:=h0 m (by omega)
     omega
  exact this 6 hb (by omega)
 ·have h1:=lK hl o ln;by_cases h0:aF l o ln b=0
  ·rw [h0];exact h1.1
  ·have:=(sN (bC.1 hl).1 (bC.1 hl).2 h0).1;unfold jL at this
   omega
theorem JZ (h:Right p s) (f:xH p s o k b n):((s.line o k).good.toNat:Int)=(s.line o k).good∧(s.line o k).good.toNat<p.sizes.length:=by
 have:=(h.sane.line f.ho f.hk).1;omega
theorem Fg (h:Right p s) (f:xH p s o k b n):(s.order o).kind=1:=by
 have h1:=h.qI f.ho f.hk;have h2:=h.sane.kind f.ho;have h3:=Dt h.sane.holds o k b;have h4:=f.held;have h5:=h.sane.line f.ho f.hk;have h6:(s.order o).kind≠0:=fun e=>by rw [ak e] at h1;omega
 have h7:(s.order o).kind≠2:=fun e=>h1.2 ⟨e,by omega⟩
 omega
theorem jaV (h:Right p s) (f:xH p s o k b n):aF s.holds o k b≤bound s b (s.line o k).good∧bound s b (s.line o k).good≤cell s.on b (s.line o k).good.toNat∧cell s.on b (s.line o k).good.toNat≤200:=by
 obtain ⟨e,hg⟩:=JZ h f;have h1:=N9 h.sane o k b;have h2:=oD h.sane b (s.line o k).good;have h3:=h.bnd f.hb hg;rw [e] at h3
 have h4:=h.sane.cell f.hb hg;simp only [eH] at h1
 exact ⟨by unfold bound;omega,h3,h4.2⟩
theorem rZ (f:xH p s o k b n) (held:Int) (o' k':Nat):(picked s o k b held n).line o' k'=if o'=o∧k'=k then {s.line o k with got:=(s.line o k).got+n,back:=(s.line o k).back+held - n} else s.line o' k':=
 Fp (s:=preS s o k b n) f.ho f.hk _ o' k'
theorem vV (f:xH p s o k b n) (held:Int) (o':Nat):((picked s o k b held n).order o').kind=(s.order o').kind:=L9 (s:=preS s o k b n) f.ho _ _ _
theorem tq (f:xH p s o k b n) (held:Int) (o':Nat):((picked s o k b held n).order o').lines.length=(s.order o').lines.length:=DT (s:=preS s o k b n) f.ho _ _ _
theorem iF (held:Int):(picked s o k b held n).orders.length=s.orders.length:=BR _ _ _ _
theorem Ac (f:xH p s o k b n) (held:Int) (o' k':Nat):((picked s o k b held n).line o' k').good=(s.line o' k').good∧((picked s o k b held n).line o' k').want=(s.line o' k').want:=by
 rw [rZ f];split
 ·rename_i hq
  obtain ⟨rfl,rfl⟩:=hq;exact ⟨rfl,rfl⟩
 ·exact ⟨rfl,rfl⟩
theorem QA (h:Right p s) (f:xH p s o k b n) (held:Int):bQ (picked s o k b held n).holds=true:=
 OW (h:=⟨o,k,b,0⟩) h.sane.holds (Cb h.sane f.ho f.hk f.hb) ⟨jI _,by show (0:Int)≤200;omega⟩
theorem TJ (h:Right p s) (f:xH p s o k b n) (held:Int) (o' k' b':Int):aF (picked s o k b held n).holds o' k' b'=if (o:Int)=o'∧(k:Int)=k'∧(b:Int)=b' then 0 else aF s.holds o' k' b':=by
 have e:=wz (h:=⟨o,k,b,0⟩) h.sane.holds (Cb h.sane f.ho f.hk f.hb) ⟨jI _,by show (0:Int)≤200;omega⟩ o' k' b'
 exact e
theorem NY (h:Right p s) (f:xH p s o k b n) (held:Int) (o' k':Int):kept (picked s o k b held n).holds o' k'=kept s.holds o' k' - if (o:Int)=o'∧(k:Int)=k' then aF s.holds o k b else 0:=by
 have e:=UO (h:=⟨o,k,b,0⟩) h.sane.holds (Cb h.sane f.ho f.hk f.hb) ⟨jI _,by show (0:Int)≤200;omega⟩ o' k'
 refine e.trans ?_
 simp only;split<;>omega
theorem VQ (h:Right p s) (f:xH p s o k b n) (held:Int) (b' g:Int):bound (picked s o k b held n) b' g=bound s b' g - if (b:Int)=b'∧(s.line o k).good=g then aF s.holds o k b else 0:=by
 have e1:iO (picked s o k b held n) b' g=iO {s with holds:=dA s.holds ⟨o,k,b,0⟩} b' g:=
  FK (s:={s with holds:=dA s.holds ⟨o,k,b,0⟩}) (t:=picked s o k b held n) rfl (fun o' k'=>(Ac f held o' k').1) b' g
 have e2:=Oe (s:=s) (h:=⟨o,k,b,0⟩) h.sane.holds (Cb h.sane f.ho f.hk f.hb) b' g;unfold bound;rw [e1,e2];simp only [eH];have:fJ (picked s o k b held n).moves b' g=fJ s.moves b' g:=rfl;rw [this];split<;>omega
theorem wV (h:Right p s) (f:xH p s o k b n):Right p (picked s o k b (aF s.holds o k b) n):=by
 obtain ⟨e,hg⟩:=JZ h f;obtain ⟨c1,c2,c3⟩:=jaV h f;have hkd:=Fg h f;have hn0:=f.n0;have hn1:=f.n1;have hout:=f.out;have hs:=h.sane;have hbl:b<s.on.length:=by rw [hs.ku];exact f.hb
 have hgl:(s.line o k).good.toNat<(rowAt s.on b).length:=by rw [hs.rowLen f.hb];exact hg
 have hol:(s.line o k).good.toNat<s.out.length:=by rw [hs.out.1];exact hg
 have hls:=h.qI f.ho f.hk;have hln:=hs.line f.ho f.hk;have hkk:=Dt hs.holds o k b;rw [ah (by omega)] at hls
 refine Right.of (iI.of ?_ (by rw [iF];exact hs.jh) hs.lJ (fun o' ho'=>?_) (fun o' k' ho' hk'=>?_) (QA h f _) (fun x hx=>?_) (fun x hx=>bY.1 (aS.1 hs.form).2.2.2.1 x hx)
  (aS.1 hs.form).2.2.2.2.1 (E5 (aS.1 hs.form).2.2.2.2.2.1 hol (by have:=(hs.out.2 hg).1;omega) hout) (aS.1 hs.form).2.2.2.2.2.2) (fun g hg'=>?_) (fun b' g hb' hg'=>?_) (fun o' k' ho' hk'=>?_)
 ·exact dM.2 ⟨hs.plan,E8 (dM.1 hs.shelf).2 (by omega) f.hb hg⟩
 ·rw [iF] at ho'
  rw [tq f,vV f];exact ⟨hs.jX ho',hs.kind ho'⟩
 ·rw [iF] at ho'
  rw [tq f] at hk'
  have hl:=hs.line ho' hk';rw [rZ f,jF];split
  ·rename_i hq
   obtain ⟨rfl,rfl⟩:=hq;simp only;omega
  ·exact hl
 ·have hin:oO p s x=true:=by
   rcases BJ.1 hx with ⟨h1,_⟩|⟨_,h1⟩
   ·exact bY.1 (aS.1 hs.form).2.2.1 x h1
   ·exact absurd rfl h1
  have:=ig.1 hin;exact ig.2 ⟨by rw [iF];exact this.1,by rw [tq f];exact this.2.1,this.2.2⟩
 ·have h1:=h.sum hg';have e1:sumOf (picked s o k b (aF s.holds o k b) n).on g=_:=uM (n:=cell s.on b (s.line o k).good.toNat - n) hbl hgl g;have e2:aC (picked s o k b (aF s.holds o k b) n).out g=if g=(s.line o k).good.toNat then aC s.out (s.line o k).good.toNat+n else aC s.out g:=AA hol
  have e3:aC (picked s o k b (aF s.holds o k b) n).inn g=aC s.inn g:=rfl;have e4:aC (picked s o k b (aF s.holds o k b) n).fixed g=aC s.fixed g:=rfl;rw [e1,e2,e3,e4];split
  ·rename_i hq
   subst hq;omega
  ·omega
 ·have h1:=h.bnd hb' hg';rw [VQ h f];have e1:cell (picked s o k b (aF s.holds o k b) n).on b' g=if b'=b∧g=(s.line o k).good.toNat then cell s.on b (s.line o k).good.toNat - n else cell s.on b' g:=iQ hbl hgl
  rw [e1];by_cases hq:b'=b∧g=(s.line o k).good.toNat
  ·rw [ak hq,ak ⟨by omega,by omega⟩]
   obtain ⟨rfl,rfl⟩:=hq;rw [e];omega
  ·rw [ah hq,ah (by omega)]
   omega
 ·rw [iF] at ho'
  rw [tq f] at hk'
  obtain ⟨l1,l2⟩:=h.qI ho' hk';obtain ⟨g1,g2⟩:=Ac f (aF s.holds o k b) o' k';refine kP.2 ?_
  rw [g2,NY h f,vV f,rZ f];by_cases hq:o'=o∧k'=k
  ·obtain ⟨rfl,rfl⟩:=hq;rw [ak ⟨rfl,rfl⟩,ak ⟨rfl,rfl⟩,ah (by omega)]
   simp only;exact ⟨by omega,by omega⟩
  ·rw [ah hq,ah (by omega),yX]
   exact ⟨l1,l2⟩
theorem BO (h:Right p s) (f:xH p s o k b n):May (picked s o k b (aF s.holds o k b) n) o k (aF s.holds o k b - n):=by
 have hln:=(h.sane.line f.ho f.hk).2.2.2.1;refine ⟨by rw [iF];exact f.ho,by rw [tq f];exact f.hk,by rw [vV f];exact Fg h f,by have:=f.n1;omega,?_⟩
 rw [rZ f,ak ⟨rfl,rfl⟩];simp only;omega
def uf (p:Plan) (s:State) (o k b:Nat) (n:Int):State:=(ji p (picked s o k b (aF s.holds o k b) n) o k (aF s.holds o k b - n) b).1
theorem BQ:qx p s o k b n=close (uf p s o k b n) o:=rfl
theorem BP (h:Right p s) (f:xH p s o k b n):
  Held p (picked s o k b (aF s.holds o k b) n) (uf p s o k b n) o k (aF s.holds o k b - n - (ji p (picked s o k b (aF s.holds o k b) n) o k (aF s.holds o k b - n) b).2)∧0≤(ji p (picked s o k b (aF s.holds o k b) n) o k (aF s.holds o k b - n) b).2∧
  (ji p (picked s o k b (aF s.holds o k b) n) o k (aF s.holds o k b - n) b).2≤aF s.holds o k b - n:=JW (wV h f) (BO h f)
theorem JX {o k b:Nat}:∀ {bs:List Nat} {s:State} {n:Int},Right p s→(∀ x∈bs,x<p.aH.length)→May s o k n→aF (kJ o k (b:Int) bs s n).1.holds o k b=aF s.holds o k b
 |[],_,_,_,_,_=>rfl
 |c::r,s,n,h,hb,hm=>by
  by_cases hq:(c:Int)=b∨min n (fC s c (s.line o k).good)<1
  ·rw [pz hq];exact JX h (fun x hx=>hb x (fA _ hx)) hm
  ·rw [xU (by omega) (by omega)]
   have f:=hm.fits (p:=p) (b:=c) (m:=min n (fC s c (s.line o k).good)) (hb c (iK ..)) (by omega) (by omega) (by omega)
   have h1:=Held.one h f;rw [JX h1.right (fun x hx=>hb x (fA _ hx)) (hm.held h1 (by omega)),FD h f,ah (by omega),mM]
theorem DF (t:State) (o:Nat) (ho:o<t.orders.length) (o':Nat):(close t o).order o'=if o'=o∧iH (t.order o)=true then {t.order o with kind:=2} else t.order o':=by
 unfold close;by_cases ha:iH (t.order o)=true
 ·rw [ak ha];have:State.order {t with orders:=t.orders.set o {t.order o with kind:=2}} o'=if o'=o then {t.order o with kind:=2} else t.order o':=vZ ho _ _
  rw [this];by_cases e:o'=o
  ·rw [ak e,ak ⟨e,ha⟩]
  ·rw [ah e,ah (fun h=>e h.1)]
 ·rw [ah ha,ah (fun h=>ha h.2)]
theorem qE (t:State) (o:Nat) (ho:o<t.orders.length) (o':Nat):((close t o).order o').lines=(t.order o').lines:=by
 rw [DF t o ho];split
 ·rename_i h;rw [h.1]
 ·rfl
theorem vJ (t:State) (o:Nat) (ho:o<t.orders.length) (o' k':Nat):(close t o).line o' k'=t.line o' k':=by
 unfold State.line;rw [qE t o ho]
theorem yD (t:State) (o:Nat):(close t o).orders.length=t.orders.length:=by
 unfold close;split<;>simp
theorem vG (t:State) (o:Nat):(close t o).on=t.on∧(close t o).holds=t.holds∧(close t o).moves=t.moves∧(close t o).inn=t.inn∧(close t o).out=t.out∧(close t o).fixed=t.fixed:=by
 unfold close;split<;>exact ⟨rfl,rfl,rfl,rfl,rfl,rfl⟩
theorem Ou (t:State) (o:Nat) (ho:o<t.orders.length) (b g:Int):bound (close t o) b g=bound t b g:=by
 have e:iO (close t o) b g=iO t b g:=FK (vG t o).2.1 (fun o' k'=>by rw [vJ t o ho]) b g
 unfold bound;rw [e,(vG t o).2.2.1]
theorem ZV {t:State} {o:Nat} (h:Right p t) (ho:o<t.orders.length) (hkd:(t.order o).kind=1) (hot:∀ o',o'<t.orders.length→o'≠o→¬ ((t.order o').kind=1∧iH (t.order o')=true)):checkState p (close t o)=0:=by
 have hs:=h.sane;obtain ⟨r1,r2,r3,r4,r5,r6⟩:=vG t o;have hord:=DF t o ho;have hkind:∀ o',((close t o).order o').kind=if o'=o∧iH (t.order o)=true then 2 else (t.order o').kind:=fun o'=>by
  rw [hord];split<;>rfl
 refine iE.2 ⟨Right.of (iI.of (by rw [r1];exact hs.shelf) (by rw [yD];exact hs.jh) (by rw [r3];exact hs.lJ) (fun o' ho'=>?_) (fun o' k' ho' hk'=>?_) (by rw [r2];exact hs.holds) (fun x hx=>?_) (fun x hx=>?_)
  (by rw [r4];exact (aS.1 hs.form).2.2.2.2.1) (by rw [r5];exact (aS.1 hs.form).2.2.2.2.2.1) (by rw [r6];exact (aS.1 hs.form).2.2.2.2.2.2)) (fun g hg=>?_) (fun b g hb hg=>?_) (fun o' k' ho' hk'=>?_),fun o' ho'=>?_⟩
 ·rw [yD] at ho'
  rw [qE t o ho,hkind];refine ⟨hs.jX ho',?_⟩
  have:=hs.kind ho';split<;>omega
 ·rw [yD] at ho'
  rw [qE t o ho] at hk'
  rw [vJ t o ho];exact jF.2 (hs.line ho' hk')
 ·rw [r2] at hx
  have:=ig.1 (bY.1 (aS.1 hs.form).2.2.1 x hx);exact ig.2 ⟨by rw [yD];exact this.1,by rw [qE t o ho];exact this.2.1,this.2.2⟩
 ·rw [r3] at hx
  exact bY.1 (aS.1 hs.form).2.2.2.1 x hx
 ·rw [r1,r4,r5,r6];exact h.sum hg
 ·rw [Ou t o ho,r1];exact h.bnd hb hg
 ·rw [yD] at ho'
  rw [qE t o ho] at hk'
  have h1:=h.qI ho' hk';have h2:=hs.line ho' hk';have h3:=(lK hs.holds o' k').1;refine kP.2 ?_
  rw [vJ t o ho,r2,hkind];by_cases hq:o'=o∧iH (t.order o)=true
  ·rw [ak hq];obtain ⟨rfl,ha⟩:=hq;have h4:=oI.1 ha k' hk';change (t.line o' k').got=(t.line o' k').want at h4
   rw [ah (by omega)] at h1
   rw [ah (by omega)]
   omega
  ·rw [ah hq];exact h1
 ·rw [yD] at ho'
  rw [hkind];by_cases hq:o'=o∧iH (t.order o)=true
  ·rw [ak hq];omega
  ·rw [ah hq];have e:iH ((close t o).order o')=iH (t.order o'):=by
    unfold iH;rw [qE t o ho]
   rw [e];by_cases ho2:o'=o
   ·subst ho2;rintro ⟨_,ha⟩;exact hq ⟨rfl,ha⟩
   ·exact hot o' ho' ho2
theorem Fh (hc:checkState p s=0) (f:xH p s o k b n):checkState p (qx p s o k b n)=0∧(qx p s o k b n).orders.length=s.orders.length∧(∀ o',((qx p s o k b n).order o').lines.length=(s.order o').lines.length)∧
  (∀ o' k':Nat,¬ (o'=o∧k'=k)→kept (qx p s o k b n).holds o' k'=kept s.holds o' k'∧(qx p s o k b n).line o' k'=s.line o' k')∧((qx p s o k b n).line o k).got=(s.line o k).got+n∧
  (((qx p s o k b n).order o).kind=2↔iH ((qx p s o k b n).order o)=true):=by
 obtain ⟨h,DU⟩:=iE.1 hc;obtain ⟨ht,_,_⟩:=BP h f;have hot:o<(uf p s o k b n).orders.length:=by rw [ht.orders,iF];exact f.ho
 have hkd:((uf p s o k b n).order o).kind=1:=by rw [ht.kind,vV f];exact Fg h f
 have Ob:∀ o' k',¬ (o'=o∧k'=k)→(uf p s o k b n).line o' k'=s.line o' k':=fun o' k' hn=>by
  have h1:=ht.line o' k';have h2:=ht.back o' k';rw [ah hn,yX] at h2
  rw [rZ f,ah hn] at h1 h2
  obtain ⟨a1,a2,a3⟩:=h1;cases hx:(uf p s o k b n).line o' k';cases hy:s.line o' k';rw [hx,hy] at a1 a2 a3 h2
  simp only at a1 a2 a3 h2
  rw [a1,a2,a3,h2]
 rw [BQ];refine ⟨ZV ht.right hot hkd (fun o' ho' hne=>?_),by rw [yD,ht.orders,iF],fun o'=>by rw [qE _ o hot,ht.lines,tq f],fun o' k' hn=>⟨?_,?_⟩,?_,?_⟩
 ·rw [ht.orders,iF] at ho'
  rw [ht.kind,vV f,ht.iH];have e:iH ((picked s o k b (aF s.holds o k b) n).order o')=iH (s.order o'):=by
   have:(picked s o k b (aF s.holds o k b) n).order o'=s.order o':=by
    have:=yH (s:=preS s o k b n) f.ho k {s.line o k with got:=(s.line o k).got+n,back:=(s.line o k).back+aF s.holds o k b - n} o'
    rw [ah hne] at this
    exact this
   rw [this]
  rw [e];exact DU o' ho'
 ·rw [(vG _ o).2.1,ht.kept,ah (by omega),NY h f,ah (by omega)]
  omega
 ·rw [vJ _ o hot,Ob o' k' hn]
 ·rw [vJ _ o hot,(ht.line o k).2.2,rZ f,ak ⟨rfl,rfl⟩]
 ·have e:iH ((close (uf p s o k b n) o).order o)=iH ((uf p s o k b n).order o):=by
   unfold iH;rw [qE _ o hot]
  rw [e,DF _ o hot];by_cases ha:iH ((uf p s o k b n).order o)=true
  ·rw [ak ⟨rfl,ha⟩];simp [ha]
  ·rw [ah (fun hh=>ha hh.2)]
   simp only [ha];constructor
   ·intro hh;omega
   ·intro hh;cases hh
theorem Yz (hc:checkState p s=0) (f:xH p s o k b n):aF (qx p s o k b n).holds o k b=0∧((qx p s o k b n).line o k).got+((qx p s o k b n).line o k).back+kept (qx p s o k b n).holds o k=((qx p s o k b n).line o k).want∧
  ((qx p s o k b n).line o k).good=(s.line o k).good∧((s.line o k).back<((qx p s o k b n).line o k).back→∀ b':Nat,b'<p.aH.length→b'≠b→fC (qx p s o k b n) b' (s.line o k).good=0):=by
 obtain ⟨h,DU⟩:=iE.1 hc;obtain ⟨ht,ht1,ht2⟩:=BP h f;have hot:o<(uf p s o k b n).orders.length:=by rw [ht.orders,iF];exact f.ho
 have hcx:=(Fh hc f).1;have hx:=cO hcx;have hlen:=(Fh hc f).2.1;have zI:=(Fh hc f).2.2.1;have hls:=(hx.qI (o:=o) (k:=k) (by rw [hlen];exact f.ho) (by rw [zI];exact f.hk)).1
 have hkd:((qx p s o k b n).order o).kind≠0:=by
  rw [BQ,DF _ o hot];split
  ·simp only;omega
  ·rw [ht.kind,vV f,Fg h f];omega
 rw [ah hkd] at hls
 refine ⟨?_,hls,?_,fun hlt b' hb' hne=>?_⟩
 ·rw [BQ,(vG _ o).2.1];have:=JX (b:=b) (wV h f) (BK p) (BO h f);change aF (uf p s o k b n).holds o k b=_ at this
  rw [this,TJ h f,ak ⟨rfl,rfl,rfl⟩]
 ·rw [BQ,vJ _ o hot,(ht.line o k).1,(Ac f _ o k).1]
 ·rw [BQ,vJ _ o hot,ht.back,ak ⟨rfl,rfl⟩,rZ f,ak ⟨rfl,rfl⟩] at hlt
  simp only at hlt
  have:=Qk (but:=b) (wV h f) (BO h f) (by omega) hb' (by omega)
  change fC (uf p s o k b n) b' _=0 at this
  rw [(Ac f _ o k).1] at this
  rw [BQ];unfold fC at this ⊢
  rw [Ou _ o hot,(vG _ o).1];exact this
theorem QB {o k b n:Int} (h:(pick p s o k b n).2=0):checkState p s=0∧∃ i j c:Nat,o=i∧k=j∧b=c∧xH p s i j c n∧(pick p s o k b n).1=qx p s i j c n:=by
 unfold pick at h ⊢
 by_cases h1:checkState p s=0
 ·rw [ah (fun hn=>hn h1)] at h ⊢
  by_cases h2:aF s.holds o k b=0
  ·rw [ak h2] at h
   simp at h
  rw [ah h2] at h ⊢
  cases h3:within n 0 (aF s.holds o k b)
  ·rw [h3,ak (by rfl)] at h
   simp at h
  rw [h3,ah (by simp)] at h
  rw [ah (by simp)]
  have h3':=within_iff.1 h3;by_cases h4:1048576<aC s.out (s.line o.toNat k.toNat).good.toNat+n
  ·rw [ak h4] at h
   simp at h
  rw [ah h4];have hs:=(cO h1).sane;obtain ⟨hk1,hm⟩:=sN (bC.1 hs.holds).1 (bC.1 hs.holds).2 h2;have hin:=ig.1 (bY.1 (aS.1 hs.form).2.2.1 _ hm);simp only at hin
  have hpos:=Ey hs.holds o k b;unfold jL at hk1
  obtain ⟨i,rfl⟩:∃ i:Nat,o=i:=⟨o.toNat,by omega⟩
  obtain ⟨j,rfl⟩:∃ j:Nat,k=j:=⟨k.toNat,by omega⟩
  obtain ⟨c,rfl⟩:∃ c:Nat,b=c:=⟨b.toNat,by omega⟩
  simp only [eH] at hin h4 ⊢
  exact ⟨h1,i,j,c,rfl,rfl,rfl,⟨by omega,by omega,by omega,by omega,by omega,by omega,by omega⟩,rfl⟩
 ·rw [ak h1] at h
  exact absurd h h1
end
section
variable {p:Plan} {s:State} {o k b n:Int}
theorem Yy (h:checkState p s≠0):pick p s o k b n=(dJ,checkState p s):=by unfold pick;rw [ak h]
theorem UD (h:checkState p s=0) (h2:aF s.holds o k b=0):pick p s o k b n=(dJ,4):=by unfold pick;rw [ah (fun hn=>hn h),ak h2]
theorem J3 (h:checkState p s=0) (h2:aF s.holds o k b≠0) (h3:n<0∨aF s.holds o k b<n):pick p s o k b n=(dJ,3):=by
 unfold pick;rw [ah (fun hn=>hn h),ah h2,gY.2 h3]
 rfl
theorem jcp (h:checkState p s=0) (h2:aF s.holds o k b≠0) (h3:0≤n∧n≤aF s.holds o k b):
  ∃ i j c:Nat,o=i∧k=j∧b=c∧i<s.orders.length∧j<(s.order i).lines.length∧c<p.aH.length∧1≤aF s.holds i j c∧aF s.holds i j c≤200∧
   pick p s o k b n=if 1048576<aC s.out (s.line i j).good.toNat+n then (dJ,2) else (qx p s i j c n,0):=by
 have hs:=(cO h).sane;obtain ⟨hk1,hm⟩:=sN (bC.1 hs.holds).1 (bC.1 hs.holds).2 h2;have hin:=ig.1 (bY.1 (aS.1 hs.form).2.2.1 _ hm);simp only at hin
 have hr:=wY (bC.1 hs.holds).1 (bC.1 hs.holds).2 o k b;unfold jL at hk1
 obtain ⟨i,rfl⟩:∃ i:Nat,o=i:=⟨o.toNat,by omega⟩
 obtain ⟨j,rfl⟩:∃ j:Nat,k=j:=⟨k.toNat,by omega⟩
 obtain ⟨c,rfl⟩:∃ c:Nat,b=c:=⟨b.toNat,by omega⟩
 simp only [eH] at hin
 refine ⟨i,j,c,rfl,rfl,rfl,by omega,by omega,by omega,by omega,hr.2,?_⟩
 unfold pick;rw [ah (fun hn=>hn h),ah h2,within_iff.2 h3,ah (by simp)]
 simp only [eH]
end
end Wh
