/- Texts of the claim, joined. -/
import Derived.Test.YtfhfkijmebhgmaaGreatQ02
set_option maxHeartbeats 20000000
set_option maxRecDepth 100000
namespace Wh
theorem Y1 (x:Hold) (l:List Hold) (o ln b:Int):aF (x::l) o ln b=if x.order=o∧x.line=ln∧x.bin=b then x.n else aF l o ln b:=by
 unfold aF;rw [PO]
 by_cases hk:x.order=o∧x.line=ln∧x.bin=b
 ·rw [ak hk,sameKey_iff.2 hk]
 ·rw [ah hk,show sameKey o ln b x=false by rw [← yZ,sameKey_iff];exact hk]
theorem filter_none {α:Type} {p:α→Bool} {l:List α} (h:∀ x∈l,p x=false):l.filter p=[]:=Lr.2 fun x hx=>by rw [h x hx];simp
theorem jdc {h:Hold} (hk:jL h.order h.line h.bin) (F:Hold→Int) (f:Int→Int→Int→Int) (hF:∀ x,F x=f x.order x.line x.bin*x.n):∀ {l:List Hold},fine l→rises l→
  (l.map F).sum=((l.filter fun x=>decide (place x<place h)).map F).sum+f h.order h.line h.bin*aF l h.order h.line h.bin+((l.filter fun x=>decide (place h<place x)).map F).sum:=by
 intro l;induction l with
 |nil=>intro _ _;simp [aF]
 |cons x l ih=>
  intro hf hr;have hf':fine l:=fun h hm=>hf h (fA _ hm)
  have hr':=Gt.1 hr;have ih':=ih hf' hr'.2;have hx:=(gG.1 (hf x (iK ..))).1;rw [dP,kE,Y1];rcases LJ (place x) (place h) with h1|h1|h1
  ·have hne:¬ (x.order=h.order∧x.line=h.line∧x.bin=h.bin):=fun he=>by
    rw [vT he] at h1;omega
   rw [ah hne,uH (by simpa using h1),Bq (by simp;omega),dP,kE,ih']
   omega
  ·obtain ⟨e1,e2,e3⟩:=UA hx hk h1;have hlt:(l.filter fun x=>decide (place x<place h))=[]:=filter_none fun y hy=>by
    have:=hr'.1 y hy;simp;omega
   have h0:aF l h.order h.line h.bin=0:=sJ fun y hy he=>by
    have h2:=hr'.1 y hy;rw [vT he] at h2
    omega
   rw [ak ⟨e1,e2,e3⟩,Bq (by simp;omega),Bq (by simp;omega),ih',hlt,h0,hF x,e1,e2,e3]
   simp
  ·have hne:¬ (x.order=h.order∧x.line=h.line∧x.bin=h.bin):=fun he=>by
    rw [vT he] at h1;omega
   have hlt:(l.filter fun x=>decide (place x<place h))=[]:=filter_none fun y hy=>by
    have:=hr'.1 y hy;simp;omega
   rw [ah hne,Bq (by simp;omega),uH (by simpa using h1),dP,kE,ih',hlt]
   simp
   omega
theorem jeq {l:List Hold} {h:Hold} (hl:bQ l=true) (hk:jL h.order h.line h.bin) (F:Hold→Int) (f:Int→Int→Int→Int) (hF:∀ x,F x=f x.order x.line x.bin*x.n):
  ((dA l h).map F).sum=(l.map F).sum+f h.order h.line h.bin*(h.n - aF l h.order h.line h.bin):=by
 obtain ⟨hf,hr⟩:=bC.1 hl;rw [jdc hk F f hF hf hr];unfold dA;rw [jl,jl,Gs,Gs,Int.mul_sub];by_cases h0:h.n=0
 ·rw [ak h0,h0];simp
  omega
 ·rw [ah h0];simp only [dP,nH,kE,List.sum_nil,hF h];omega
theorem vZ {l:List Order} {o:Nat} (ho:o<l.length) (x:Order) (o':Nat):ay (l.set o x) o'=if o'=o then x else ay l o':=by
 unfold ay;by_cases h:o'=o
 ·subst h;simp [ho]
 ·rw [ah h];simp [Ec h]
theorem ja8 {l:List Line} {k:Nat} (hk:k<l.length) (x:Line) (k':Nat):bH (l.set k x) k'=if k'=k then x else bH l k':=by
 unfold bH;by_cases h:k'=k
 ·subst h;simp [hk]
 ·rw [ah h];simp [Ec h]
theorem yH {s:State} {o:Nat} (ho:o<s.orders.length) (k:Nat) (y:Line) (o':Nat):(s.fG o k y).order o'=if o'=o then {s.order o with lines:=(s.order o).lines.set k y} else s.order o':=vZ ho _ _
theorem Fp {s:State} {o k:Nat} (ho:o<s.orders.length) (hk:k<(s.order o).lines.length) (y:Line) (o' k':Nat):(s.fG o k y).line o' k'=if o'=o∧k'=k then y else s.line o' k':=by
 unfold State.line;rw [yH ho];by_cases h:o'=o
 ·subst h;rw [ak rfl];simp only [nU];exact ja8 hk _ _
 ·rw [ah h,ah (fun h'=>h h'.1)]
theorem BR (s:State) (o k:Nat) (y:Line):(s.fG o k y).orders.length=s.orders.length:=by unfold State.fG;simp
theorem L9 {s:State} {o:Nat} (ho:o<s.orders.length) (k:Nat) (y:Line) (o':Nat):((s.fG o k y).order o').kind=(s.order o').kind:=by
 rw [yH ho];split
 ·rename_i h;rw [h]
 ·rfl
theorem DT {s:State} {o:Nat} (ho:o<s.orders.length) (k:Nat) (y:Line) (o':Nat):((s.fG o k y).order o').lines.length=(s.order o').lines.length:=by
 rw [yH ho];split
 ·rename_i h;rw [h];simp
 ·rfl
theorem FK {s t:State} (hh:t.holds=s.holds) (hg:∀ o k,(t.line o k).good=(s.line o k).good) (b g:Int):iO t b g=iO s b g:=by
 unfold iO;rw [hh];congr 1
 apply Ef;intro h _;unfold mZ;rw [hg]
theorem Oe {s:State} {h:Hold} (hl:bQ s.holds=true) (hk:jL h.order h.line h.bin) (b g:Int):
  iO {s with holds:=dA s.holds h} b g=iO s b g+if h.bin=b∧(s.line h.order.toNat h.line.toNat).good=g then h.n - aF s.holds h.order h.line h.bin else 0:=by
 have:=jeq hl hk (mZ s b g) (fun o ln b'=>if b'=b∧(s.line o.toNat ln.toNat).good=g then 1 else 0) (fun x=>by
  unfold mZ;split<;>simp)
 have e:iO {s with holds:=dA s.holds h} b g=((dA s.holds h).map (mZ s b g)).sum:=rfl
 rw [e,this];congr 1
 split<;>simp
structure Right (p:Plan) (s:State):Prop where
 sane:iI p s
 good:∀ g,g<p.sizes.length→ni p s g=true
 line:∀ o k,o<s.orders.length→k<(s.order o).lines.length→fM s o k=true
theorem iE {p:Plan} {s:State}:checkState p s=0↔Right p s∧∀ o,o<s.orders.length→¬ ((s.order o).kind=1∧iH (s.order o)=true):=by
 rw [dV,JY];constructor
 ·rintro ⟨h1,h2,h3⟩;exact ⟨⟨h1,h2,fun o k ho hk=>(jP.1 (h3 o ho)).2 k hk⟩,fun o ho=>(jP.1 (h3 o ho)).1⟩
 ·rintro ⟨⟨h1,h2,h3⟩,h4⟩;exact ⟨h1,h2,fun o ho=>jP.2 ⟨h4 o ho,fun k hk=>h3 o k ho hk⟩⟩
theorem cO {p:Plan} {s:State} (h:checkState p s=0):Right p s:=(iE.1 h).1
theorem jfb {s:State} {o:Nat} {x:Line} (hx:x∈(s.order o).lines):∃ k,k<(s.order o).lines.length∧s.line o k=x:=by
 obtain ⟨k,hk,rfl⟩:=cZ hx;exact ⟨k,hk,by unfold State.line;rw [iZ hk]⟩
theorem iI.of {p:Plan} {s:State} (h1:bW p s.on=0) (h2:s.orders.length≤4) (h3:s.moves.length≤8) (h4:∀ o,o<s.orders.length→(1≤(s.order o).lines.length∧(s.order o).lines.length≤3)∧0≤(s.order o).kind∧(s.order o).kind≤2)
  (h5:∀ o k,o<s.orders.length→k<(s.order o).lines.length→jY p (s.line o k)=true) (h6:bQ s.holds=true) (h7:∀ x∈s.holds,oO p s x=true) (h8:∀ x∈s.moves,jR p x=true)
  (h9:kX p s.inn 0=true) (h10:kX p s.out 0=true) (h11:kX p s.fixed (-1048576)=true):iI p s:=by
 refine ⟨h1,sF.2 ⟨h2,h3,uo yC fun o ho=>within_iff.2 ?_⟩,aS.2 ⟨uo yC fun o ho=>vY.2 ⟨(h4 o ho).2,bY.2 fun x hx=>?_⟩,h6,bY.2 h7,bY.2 h8,h9,h10,h11⟩⟩
 ·have:=(h4 o ho).1;unfold State.order ay at this
  omega
 ·obtain ⟨k,hk,rfl⟩:=jfb (s:=s) (o:=o) hx;exact h5 o k ho hk
theorem Right.of {p:Plan} {s:State} (h:iI p s) (h1:∀ g,g<p.sizes.length→sumOf s.on g=aC s.inn g - aC s.out g+aC s.fixed g) (h2:∀ b g:Nat,b<p.aH.length→g<p.sizes.length→bound s b g≤cell s.on b g)
  (h3:∀ o k,o<s.orders.length→k<(s.order o).lines.length→fM s o k=true):Right p s:=
 ⟨h,fun g hg=>oC.2 ⟨h1 g hg,fun b hb=>h2 b g hb hg⟩,h3⟩
namespace Right
variable {p:Plan} {s:State} (h:Right p s)
include h
theorem sum {g:Nat} (hg:g<p.sizes.length):sumOf s.on g=aC s.inn g - aC s.out g+aC s.fixed g:=(oC.1 (h.good g hg)).1
theorem bnd {b g:Nat} (hb:b<p.aH.length) (hg:g<p.sizes.length):bound s b g≤cell s.on b g:=(oC.1 (h.good g hg)).2 b hb
theorem qI {o k:Nat} (ho:o<s.orders.length) (hk:k<(s.order o).lines.length):(s.line o k).got+(s.line o k).back+kept s.holds o k=(if (s.order o).kind=0 then 0 else (s.line o k).want)∧¬ ((s.order o).kind=2∧0<kept s.holds o k):=kP.1 (h.line o k ho hk)
theorem IL {b g:Nat} (hb:b<p.aH.length) (hg:g<p.sizes.length):0≤fC s b g∧fC s b g≤cell s.on b g:=by
 have h1:=h.bnd hb hg;have h2:=wG h.sane b g;unfold fC;simp only [eH];omega
end Right
section
variable {p:Plan} {s:State} {o k b:Nat} {m:Int}
theorem Ey {l:List Hold} (hl:bQ l=true) (o ln b:Int):0≤aF l o ln b:=(wY (bC.1 hl).1 (bC.1 hl).2 o ln b).1
theorem N9 (hs:iI p s) (o k b:Int):aF s.holds o k b≤iO s b (s.line o.toNat k.toNat).good:=by
 by_cases h0:aF s.holds o k b=0
 ·rw [h0];have:=tN hs b (s.line o.toNat k.toNat).good s.holds.length;rw [yu] at this
  omega
 ·obtain ⟨h1,h2⟩:=bC.1 hs.holds;obtain ⟨hk,hm⟩:=sN h1 h2 h0;have h3:∀ l:List Hold,(∀ x∈l,1≤x.n)→∀ x∈l,mZ s b (s.line o.toNat k.toNat).good x≤(l.map (mZ s b (s.line o.toNat k.toNat).good)).sum∧0≤(l.map (mZ s b (s.line o.toNat k.toNat).good)).sum:=by
   intro l;induction l with
   |nil=>simp
   |cons y l ih=>
    intro hn x hx;have hy:=hn y (by simp)
    have hyn:0≤mZ s b (s.line o.toNat k.toNat).good y:=by unfold mZ;split<;>omega
    have hl0:0≤(l.map (mZ s b (s.line o.toNat k.toNat).good)).sum:=by
     cases l with
     |nil=>simp
     |cons z l=>exact (ih (fun x hx=>hn x (by simp at hx ⊢;exact .inr hx)) z (by simp)).2
    rw [dP,kE];rcases nY.1 hx with rfl|hx
    ·exact ⟨by omega,by omega⟩
    ·have:=ih (fun x hx=>hn x (fA _ hx)) x hx
     omega
  have h4:=(h3 s.holds (fun x hx=>(gG.1 (h1 x hx)).2.1) _ hm).1
  have h5:mZ s b (s.line o.toNat k.toNat).good ⟨o,k,b,aF s.holds o k b⟩=aF s.holds o k b:=by
   unfold mZ;exact ak ⟨rfl,rfl⟩
  rw [h5] at h4
  exact h4
theorem oD (hs:iI p s) (b g:Int):0≤fJ s.moves b g:=by
 have:=yI hs b g s.moves.length;rw [Dw] at this
 exact this.1
theorem Cb (hs:iI p s) (ho:o<s.orders.length) (hk:k<(s.order o).lines.length) (hb:b<p.aH.length):jL o k b:=by
 have h4:=hs.jh;have h3:=hs.jX ho;have hc:=hs.counts;unfold jL;omega
structure Fits (p:Plan) (s:State) (o k b:Nat) (m:Int):Prop where
 ho:o<s.orders.length
 hk:k<(s.order o).lines.length
 hb:b<p.aH.length
 kind:(s.order o).kind=1
 m1:1≤m
 av:m≤fC s b (s.line o k).good
 back:m≤(s.line o k).back
variable (h:Right p s) (f:Fits p s o k b m)
include h f
theorem U2:((s.line o k).good.toNat:Int)=(s.line o k).good∧(s.line o k).good.toNat<p.sizes.length:=by
 have:=(h.sane.line f.ho f.hk).1;omega
theorem EK:0≤aF s.holds o k b∧aF s.holds o k b+m≤200:=by
 obtain ⟨e,hg⟩:=U2 h f;have h1:=N9 h.sane o k b;have h2:=oD h.sane b (s.line o k).good;have h3:=f.av;have h4:=h.sane.cell f.hb hg;unfold fC bound at h3
 simp only [eH] at h1 h3
 exact ⟨Ey h.sane.holds _ _ _,by omega⟩
theorem TQ:bQ (kC s o k b m).holds=true:=by
 have:=EK h f;have hm:=f.m1;exact OW h.sane.holds (Cb h.sane f.ho f.hk f.hb) ⟨by show 0≤aF s.holds o k b+m;omega,this.2⟩
theorem FD (o' k' b':Int):aF (kC s o k b m).holds o' k' b'=aF s.holds o' k' b'+if (o:Int)=o'∧(k:Int)=k'∧(b:Int)=b' then m else 0:=by
 have:=EK h f;have hm:=f.m1;have e:=wz (h:=⟨o,k,b,aF s.holds o k b+m⟩) h.sane.holds (Cb h.sane f.ho f.hk f.hb) ⟨by show 0≤aF s.holds o k b+m;omega,this.2⟩ o' k' b'
 refine e.trans ?_
 simp only;split
 ·rename_i hq
  obtain ⟨rfl,rfl,rfl⟩:=hq;rfl
 ·omega
theorem Q9 (o' k':Int):kept (kC s o k b m).holds o' k'=kept s.holds o' k'+if (o:Int)=o'∧(k:Int)=k' then m else 0:=by
 have:=EK h f;have hm:=f.m1;have e:=UO (h:=⟨o,k,b,aF s.holds o k b+m⟩) h.sane.holds (Cb h.sane f.ho f.hk f.hb) ⟨by show 0≤aF s.holds o k b+m;omega,this.2⟩ o' k'
 refine e.trans ?_
 simp only;congr 1
 split<;>omega
omit h in
theorem FC (o' k':Nat):(kC s o k b m).line o' k'=if o'=o∧k'=k then {s.line o k with back:=(s.line o k).back - m} else s.line o' k':=
 Fp (s:={s with holds:=dA s.holds ⟨o,k,b,aF s.holds o k b+m⟩}) f.ho f.hk _ o' k'
omit h in
theorem Kq (o':Nat):((kC s o k b m).order o').kind=(s.order o').kind:=L9 (s:={s with holds:=dA s.holds ⟨o,k,b,aF s.holds o k b+m⟩}) f.ho _ _ _
omit h in
theorem zu (o':Nat):((kC s o k b m).order o').lines.length=(s.order o').lines.length:=DT (s:={s with holds:=dA s.holds ⟨o,k,b,aF s.holds o k b+m⟩}) f.ho _ _ _
omit h f in
theorem tK:(kC s o k b m).orders.length=s.orders.length:=BR _ _ _ _
omit h in
theorem uX (o' k':Nat):((kC s o k b m).line o' k').good=(s.line o' k').good∧((kC s o k b m).line o' k').want=(s.line o' k').want∧((kC s o k b m).line o' k').got=(s.line o' k').got:=by
 rw [FC f];split
 ·rename_i hq
  obtain ⟨rfl,rfl⟩:=hq;exact ⟨rfl,rfl,rfl⟩
 ·exact ⟨rfl,rfl,rfl⟩
theorem zx (b' g:Int):bound (kC s o k b m) b' g=bound s b' g+if (b:Int)=b'∧(s.line o k).good=g then m else 0:=by
 have e1:iO (kC s o k b m) b' g=iO {s with holds:=dA s.holds ⟨o,k,b,aF s.holds o k b+m⟩} b' g:=
  FK (s:={s with holds:=dA s.holds ⟨o,k,b,aF s.holds o k b+m⟩}) (t:=kC s o k b m) rfl (fun o' k'=>(uX f o' k').1) b' g
 have e2:=Oe (s:=s) (h:=⟨o,k,b,aF s.holds o k b+m⟩) h.sane.holds (Cb h.sane f.ho f.hk f.hb) b' g;unfold bound;rw [e1,e2];simp only [eH];have:fJ (kC s o k b m).moves b' g=fJ s.moves b' g:=rfl;rw [this];split<;>omega
theorem Zb (b':Nat) (g:Int):fC (kC s o k b m) b' g=fC s b' g - if b=b'∧(s.line o k).good=g then m else 0:=by
 unfold fC;rw [zx h f];have:(kC s o k b m).on=s.on:=rfl;rw [this];simp only [Int.natCast_inj];omega
theorem HY:Right p (kC s o k b m):=by
 obtain ⟨e,hg⟩:=U2 h f;have hm:=f.m1;have hbk:=f.back;have hav:=f.av;refine Right.of (iI.of h.sane.shelf (by rw [tK];exact h.sane.jh) h.sane.lJ (fun o' ho'=>?_) (fun o' k' ho' hk'=>?_) (TQ h f) (fun x hx=>?_) (fun x hx=>bY.1 (aS.1 h.sane.form).2.2.2.1 x hx)
  (aS.1 h.sane.form).2.2.2.2.1 (aS.1 h.sane.form).2.2.2.2.2.1 (aS.1 h.sane.form).2.2.2.2.2.2) (fun g hg=>h.sum hg) (fun b' g hb' hg'=>?_) (fun o' k' ho' hk'=>?_)
 ·rw [tK] at ho'
  rw [zu f,Kq f];exact ⟨h.sane.jX ho',h.sane.kind ho'⟩
 ·rw [tK] at ho'
  rw [zu f] at hk'
  have hl:=h.sane.line ho' hk';rw [FC f,jF];split
  ·rename_i hq
   obtain ⟨rfl,rfl⟩:=hq;simp only;omega
  ·exact hl
 ·have hin:oO p s x=true:=by
   rcases BJ.1 hx with ⟨h1,_⟩|⟨rfl,_⟩
   ·exact bY.1 (aS.1 h.sane.form).2.2.1 x h1
   ·refine ig.2 ⟨?_,?_,?_⟩
    ·have:=f.ho;show (o:Int)<_;omega
    ·have:=f.hk;show (k:Int)<_;simp only [eH];omega
    ·have:=f.hb;show (b:Int)<_;omega
  have:=ig.1 hin;exact ig.2 ⟨by rw [tK];exact this.1,by rw [zu f];exact this.2.1,this.2.2⟩
 ·have h1:=h.bnd hb' hg';rw [zx h f];have:(kC s o k b m).on=s.on:=rfl;rw [this];split
  ·rename_i hq
   obtain ⟨hq1,hq2⟩:=hq;have hbb:b=b':=by omega
   subst hbb;rw [hq2] at hav
   unfold fC at hav
   simp only [eH] at hav
   omega
  ·omega
 ·rw [tK] at ho'
  rw [zu f] at hk'
  obtain ⟨l1,l2⟩:=h.qI ho' hk';obtain ⟨g1,g2,g3⟩:=uX (m:=m) f o' k';refine kP.2 ?_
  rw [g2,g3,Q9 h f,Kq f];have hb2:((kC s o k b m).line o' k').back=(s.line o' k').back - if (o:Int)=o'∧(k:Int)=k' then m else 0:=by
   rw [FC f];by_cases hq:o'=o∧k'=k
   ·obtain ⟨rfl,rfl⟩:=hq;simp
   ·rw [ah hq,ah (by omega)]
    omega
  rw [hb2];refine ⟨by omega,?_⟩
  rintro ⟨hk2,hpos⟩;by_cases hq:(o:Int)=o'∧(k:Int)=k'
  ·have:o=o':=by omega
   subst this;have:=f.kind;omega
  ·rw [ah hq] at hpos
   exact l2 ⟨hk2,by omega⟩
end
theorem State.ext' {a b:State} (h1:a.on=b.on) (h2:a.orders=b.orders) (h3:a.holds=b.holds) (h4:a.moves=b.moves) (h5:a.inn=b.inn) (h6:a.out=b.out) (h7:a.fixed=b.fixed):a=b:=by
 cases a;cases b;simp only at h1 h2 h3 h4 h5 h6 h7;subst h1 h2 h3 h4 h5 h6 h7;rfl
structure Held (p:Plan) (s t:State) (o k:Nat) (d:Int):Prop where
 right:Right p t
 on:t.on=s.on
 moves:t.moves=s.moves
 inn:t.inn=s.inn
 out:t.out=s.out
 fixed:t.fixed=s.fixed
 orders:t.orders.length=s.orders.length
 kind:∀ o',(t.order o').kind=(s.order o').kind
 lines:∀ o',(t.order o').lines.length=(s.order o').lines.length
 line:∀ o' k',(t.line o' k').good=(s.line o' k').good∧(t.line o' k').want=(s.line o' k').want∧(t.line o' k').got=(s.line o' k').got
 back:∀ o' k',(t.line o' k').back=(s.line o' k').back - if o'=o∧k'=k then d else 0
 aF:∀ o' k' b':Int,¬ (o'=(o:Int)∧k'=(k:Int))→Wh.aF t.holds o' k' b'=Wh.aF s.holds o' k' b'
 kept:∀ o' k':Int,Wh.kept t.holds o' k'=Wh.kept s.holds o' k'+if o'=(o:Int)∧k'=(k:Int) then d else 0
 other:∀ b g:Int,g≠(s.line o k).good→Wh.bound t b g=Wh.bound s b g
 more:∀ b g:Int,Wh.bound s b g≤Wh.bound t b g
 least:∀ o' k' b':Int,Wh.aF s.holds o' k' b'≤Wh.aF t.holds o' k' b'
namespace Held
variable {p:Plan} {s t u:State} {o k:Nat} {d d':Int}
theorem refl (h:Right p s):Held p s s o k 0:=by
 refine ⟨h,rfl,rfl,rfl,rfl,rfl,rfl,fun _=>rfl,fun _=>rfl,fun _ _=>⟨rfl,rfl,rfl⟩,fun _ _=>by split<;>omega,fun _ _ _ _=>rfl,fun _ _=>by split<;>omega,fun _ _ _=>rfl,fun _ _=>jI _,fun _ _ _=>jI _⟩
theorem trans (h:Held p s t o k d) (h':Held p t u o k d'):Held p s u o k (d+d'):=by
 refine ⟨h'.right,h'.on.trans h.on,h'.moves.trans h.moves,h'.inn.trans h.inn,h'.out.trans h.out,h'.fixed.trans h.fixed,h'.orders.trans h.orders,fun o'=>(h'.kind o').trans (h.kind o'),fun o'=>(h'.lines o').trans (h.lines o'),fun o' k'=>?_,fun o' k'=>?_,fun o' k' b' hn=>(h'.aF o' k' b' hn).trans (h.aF o' k' b' hn),fun o' k'=>?_,fun b g hg=>?_,fun b g=>GL (h.more b g) (h'.more b g),fun _ _ _=>GL (h.least _ _ _) (h'.least _ _ _)⟩
 ·obtain ⟨a1,a2,a3⟩:=h.line o' k';obtain ⟨b1,b2,b3⟩:=h'.line o' k';exact ⟨b1.trans a1,b2.trans a2,b3.trans a3⟩
 ·rw [h'.back,h.back];split<;>omega
 ·rw [h'.kept,h.kept];split<;>omega
 ·rw [h'.other b g (by rw [(h.line o k).1];exact hg),h.other b g hg]
theorem one {b:Nat} {m:Int} (h:Right p s) (f:Fits p s o k b m):Held p s (kC s o k b m) o k m:=by
 have hm:=f.m1;refine ⟨HY h f,rfl,rfl,rfl,rfl,rfl,tK,fun o'=>Kq f o',fun o'=>zu f o',fun o' k'=>uX f o' k',fun o' k'=>?_,fun o' k' b' hn=>?_,fun o' k'=>?_,fun b' g hg=>?_,fun b' g=>?_,fun o' k' b'=>?_⟩
 ·rw [FC f];split
  ·rename_i hq
   obtain ⟨rfl,rfl⟩:=hq;rfl
  ·omega
 ·rw [FD h f,ah (by omega),mM]
 ·rw [Q9 h f];congr 1
  split<;>split<;>omega
 ·rw [zx h f,ah (fun hq=>hg hq.2.symm),mM]
 ·rw [zx h f];split<;>omega
 ·rw [FD h f];split<;>omega
theorem cast (h:Held p s t o k d) (e:d=d'):Held p s t o k d':=e ▸ h
theorem jhi (h:Held p s t o k d) (b g:Int):fC t b g≤fC s b g:=by
 have:=h.more b g;unfold fC;rw [h.on];omega
theorem iH (h:Held p s t o k d) {o':Nat}:Wh.iH (t.order o')=Wh.iH (s.order o'):=by
 rw [GV,oI,oI,h.lines];constructor
 ·intro hh k' hk';have:=hh k' hk';have e:=h.line o' k';unfold State.line at e
  rw [e.2.1,e.2.2] at this
  exact this
 ·intro hh k' hk';have:=hh k' hk';have e:=h.line o' k';unfold State.line at e
  rw [e.2.1,e.2.2];exact this
end Held
section
variable {p:Plan} {o k:Nat} {but:Int}
structure May (s:State) (o k:Nat) (n:Int):Prop where
 ho:o<s.orders.length
 hk:k<(s.order o).lines.length
 kind:(s.order o).kind=1
 n0:0≤n
 back:n≤(s.line o k).back
theorem May.held {s t:State} {n d:Int} (h:May s o k n) (hh:Held p s t o k d) (hd:d≤n):May t o k (n - d):=by
 refine ⟨by rw [hh.orders];exact h.ho,by rw [hh.lines];exact h.hk,by rw [hh.kind];exact h.kind,by omega,?_⟩
 rw [hh.back,ak ⟨rfl,rfl⟩];have:=h.back;omega
theorem May.fits {s:State} {n:Int} (h:May s o k n) {b:Nat} {m:Int} (hb:b<p.aH.length) (h1:1≤m) (hn:m≤n) (ha:m≤fC s b (s.line o k).good):Fits p s o k b m:=
 ⟨h.ho,h.hk,hb,h.kind,h1,ha,by have:=h.back;omega⟩
theorem May.good {s:State} {n:Int} (h:May s o k n) (hs:Right p s):((s.line o k).good.toNat:Int)=(s.line o k).good∧(s.line o k).good.toNat<p.sizes.length:=by
 have:=(hs.sane.line h.ho h.hk).1;omega
theorem May.fC {s:State} {n:Int} (h:May s o k n) (hs:Right p s) {b:Nat} (hb:b<p.aH.length):0≤fC s b (s.line o k).good:=by
 obtain ⟨e,hg⟩:=h.good hs;have:=(hs.IL hb hg).1;rwa [e] at this
theorem pz {b:Nat} {r:List Nat} {s:State} {n:Int} (h:(b:Int)=but∨min n (fC s b (s.line o k).good)<1):kJ o k but (b::r) s n=kJ o k but r s n:=by
 rw [kJ];exact ak h
theorem xU {b:Nat} {r:List Nat} {s:State} {n:Int} (h:¬ (b:Int)=but) (h1:1≤min n (fC s b (s.line o k).good)):
  kJ o k but (b::r) s n=kJ o k but r (kC s o k b (min n (fC s b (s.line o k).good))) (n - min n (fC s b (s.line o k).good)):=by
 rw [kJ];exact ah (by omega)
theorem Dc:∀ {bs:List Nat} {s:State} {n:Int},n<1→kJ o k but bs s n=(s,n)
 |[],_,_,_=>rfl
 |b::r,s,n,h=>by rw [pz (.inr (by omega)),Dc h]
theorem rX:∀ {bs:List Nat} {s:State} {n:Int},Right p s→(∀ b∈bs,b<p.aH.length)→May s o k n→
  Held p s (kJ o k but bs s n).1 o k (n - (kJ o k but bs s n).2)∧0≤(kJ o k but bs s n).2∧(kJ o k but bs s n).2≤n
 |[],s,n,h,_,hm=>by
  have:=hm.n0;exact ⟨(Held.refl h).cast (by show (0:Int)=n - n;omega),this,jI _⟩
 |b::r,s,n,h,hb,hm=>by
  by_cases hq:(b:Int)=but∨min n (fC s b (s.line o k).good)<1
  ·rw [pz hq];exact rX h (fun x hx=>hb x (fA _ hx)) hm
  ·rw [xU (by omega) (by omega)]
   have f:=hm.fits (p:=p) (b:=b) (m:=min n (fC s b (s.line o k).good)) (hb b (iK ..)) (by omega) (by omega) (by omega)
   have h1:=Held.one h f;obtain ⟨h2,h3,h4⟩:=rX h1.right (fun x hx=>hb x (fA _ hx)) (hm.held h1 (by omega))
   exact ⟨(h1.trans h2).cast (by omega),h3,by omega⟩
theorem wS:∀ {bs:List Nat} {s:State} {n:Int},Right p s→(∀ b∈bs,b<p.aH.length)→May s o k n→∀ (b:Nat),(b ∉ bs∨(b:Int)=but)→∀ g:Int,
  bound (kJ o k but bs s n).1 b g=bound s b g
 |[],s,n,h,_,hm=>fun _ _ _=>rfl
 |c::r,s,n,h,hb,hm=>fun b hnot g=>by
  have jjs:b ∉ r∨(b:Int)=but:=hnot.imp (fun h1 h2=>h1 (fA _ h2)) id
  by_cases hq:(c:Int)=but∨min n (fC s c (s.line o k).good)<1
  ·rw [pz hq];exact wS h (fun x hx=>hb x (fA _ hx)) hm b jjs g
  ·rw [xU (by omega) (by omega)]
   have f:=hm.fits (p:=p) (b:=c) (m:=min n (fC s c (s.line o k).good)) (hb c (iK ..)) (by omega) (by omega) (by omega)
   have h1:=Held.one h f;rw [wS h1.right (fun x hx=>hb x (fA _ hx)) (hm.held h1 (by omega)) b jjs g,zx h f,ah,mM]
   rintro ⟨e,_⟩;have:c=b:=by omega
   subst this;rcases hnot with h2|h2
   ·exact h2 (iK ..)
   ·omega
theorem G7:∀ {bs:List Nat} {s:State} {n:Int},bs.Nodup→Right p s→(∀ b∈bs,b<p.aH.length)→May s o k n→0<(kJ o k but bs s n).2→∀ b∈bs,(b:Int)≠but→fC (kJ o k but bs s n).1 b (s.line o k).good=0
 |[],s,n,_,h,_,hm=>fun _ b hb=>by simp at hb
 |c::r,s,n,hnd,h,hb,hm=>fun hpos b hbm hne=>by
  have hnd':=Gu.1 hnd;have hav:=hm.fC h (hb c (iK ..));by_cases hq:(c:Int)=but∨min n (fC s c (s.line o k).good)<1
  ·rw [pz hq] at hpos ⊢
   have hle:=(rX (but:=but) h (fun x hx=>hb x (fA _ hx)) hm).2.2
   rcases nY.1 hbm with rfl|hbm
   ·have hoth:=wS (but:=but) h (fun x hx=>hb x (fA _ hx)) hm b (.inl hnd'.1) (s.line o k).good
    have hon:=(rX (but:=but) h (fun x hx=>hb x (fA _ hx)) hm).1.on
    unfold fC at hq hav ⊢
    rw [hoth,hon];omega
   ·exact G7 hnd'.2 h (fun x hx=>hb x (fA _ hx)) hm hpos b hbm hne
  ·rw [xU (by omega) (by omega)] at hpos ⊢
   have f:=hm.fits (p:=p) (b:=c) (m:=min n (fC s c (s.line o k).good)) (hb c (iK ..)) (by omega) (by omega) (by omega)
   have h1:=Held.one h f;have hm1:=hm.held h1 (by omega)
   have hle:=(rX (but:=but) h1.right (fun x hx=>hb x (fA _ hx)) hm1).2.2
   rcases nY.1 hbm with rfl|hbm
   ·have hoth:=wS (but:=but) h1.right (fun x hx=>hb x (fA _ hx)) hm1 b (.inl hnd'.1) (s.line o k).good
    have hon:=(rX (but:=but) h1.right (fun x hx=>hb x (fA _ hx)) hm1).1.on
    have ha1:=Zb h f b (s.line o k).good;rw [ak ⟨rfl,rfl⟩] at ha1
    have e:fC (kJ o k but r (kC s o k b (min n (fC s b (s.line o k).good))) (n - min n (fC s b (s.line o k).good))).1 b (s.line o k).good=fC (kC s o k b (min n (fC s b (s.line o k).good))) b (s.line o k).good:=by
     unfold fC at hoth hon ⊢
     rw [hoth,hon]
    rw [e,ha1];omega
   ·have:=G7 hnd'.2 h1.right (fun x hx=>hb x (fA _ hx)) hm1 hpos b hbm hne
    rwa [(h1.line o k).1] at this
end
theorem jc9 (p:Plan):(way p).Nodup:=(Vz p).imp fun h=>h.1
theorem BK (p:Plan):∀ b∈way p,b<p.aH.length:=fun _ h=>jcC.1 h
theorem JW {p:Plan} {s:State} {o k:Nat} {n but:Int} (h:Right p s) (hm:May s o k n):
  Held p s (ji p s o k n but).1 o k (n - (ji p s o k n but).2)∧0≤(ji p s o k n but).2∧(ji p s o k n but).2≤n:=rX h (BK p) hm
theorem Qk {p:Plan} {s:State} {o k:Nat} {n but:Int} (h:Right p s) (hm:May s o k n) (hl:0<(ji p s o k n but).2) {b:Nat} (hb:b<p.aH.length) (hne:(b:Int)≠but):fC (ji p s o k n but).1 b (s.line o k).good=0:=
 G7 (jc9 p) h (BK p) hm hl b (jcC.2 hb) hne
theorem jdb {p:Plan} {s:State} {o k b:Nat} {n:Int} (h:Right p s) (hm:May s o k n) (g:Int):bound (ji p s o k n b).1 b g=bound s b g:=wS h (BK p) hm b (.inr rfl) g
def Zw (s:State) (g:Int) (o k:Nat):Int:=if (s.line o k).good=g then (s.line o k).got else 0
def QE (F:Nat→Nat→Int) (s:State) (o k:Nat):Int:=sumTo (fun i=>sumTo (F i) (s.order i).lines.length) o+sumTo (F o) k
theorem jaY (F:Nat→Nat→Int) (s:State) (o:Nat):QE F s (o+1) 0=QE F s o (s.order o).lines.length:=by
 show (sumTo _ o+sumTo (F o) (s.order o).lines.length)+0=_;unfold QE;omega
theorem Xg {p:Plan} {b:Int} (h:fD p b=true):∃ n:Nat,b=n∧n<p.aH.length:=by
 have:=oU.1 h;exact ⟨b.toNat,by omega,by omega⟩
theorem RF {p:Plan} {g:Int} (h:bU p g=true):∃ n:Nat,g=n∧n<p.sizes.length:=by
 have:=lM.1 h;exact ⟨g.toNat,by omega,by omega⟩
theorem Ez (n i:Nat):aC (List.replicate n 0) i=0:=by
 unfold aC;by_cases h:i<n<;>simp [h]
theorem Z5 (n m b g:Nat):cell (List.replicate n (List.replicate m 0)) b g=0:=by
 unfold cell rowAt;by_cases h:b<n
 ·simp [h,Ez]
 ·simp [h,aC]
theorem Qo {f:Nat→Int} {n:Nat} (h:∀ k,k<n→f k=0):sumTo f n=0:=by
 induction n with
 |zero=>rfl
 |succ n ih=>
  show sumTo f n+f n=0;rw [ih fun k hk=>h k (by omega),h n (by omega)]
  rfl
theorem Z9 {p:Plan} (h:bK p=0):checkState p (begin p)=0:=by
 have hc:=jC h;have hsum:kX p (List.replicate p.sizes.length 0) 0=true:=jr.2 ⟨by simp,uo 0 fun k hk=>by
  have:=Ez p.sizes.length k;unfold aC at this
  rw [this];rfl⟩
 have jnI:kX p (List.replicate p.sizes.length 0) (-1048576)=true:=jr.2 ⟨by simp,uo 0 fun k hk=>by
  have:=Ez p.sizes.length k;unfold aC at this
  rw [this];rfl⟩
 refine iE.2 ⟨Right.of (iI.of ?_ (by show (0:Nat)≤4;omega) (by show (0:Nat)≤8;omega) (fun o ho=>by cases ho) (fun o k ho=>by cases ho) rfl (fun x hx=>by cases hx) (fun x hx=>by cases hx) hsum hsum jnI) (fun g hg=>?_) (fun b g hb hg=>?_) (fun o k ho=>by cases ho),fun o ho=>by cases ho⟩
 ·refine II h (by simp [begin]) fun k hk=>?_
  have hk':k<p.aH.length:=by simpa [begin] using hk
  have e:rowAt (begin p).on k=List.replicate p.sizes.length 0:=by simp [begin,rowAt,hk']
  rw [e];refine Uy (by simp) fun j hj=>?_
  rw [Ez];rfl
 ·show sumOf (List.replicate p.aH.length (List.replicate p.sizes.length 0)) g=aC (List.replicate p.sizes.length 0) g - aC (List.replicate p.sizes.length 0) g+aC (List.replicate p.sizes.length 0) g;rw [Ez];exact Qo fun k _=>Z5 _ _ _ _
 ·show (0:Int)≤cell (List.replicate p.aH.length (List.replicate p.sizes.length 0)) b g;rw [Z5];exact jI _
theorem Kt {s t:State} (hh:t.holds=s.holds) (hg:∀ x∈s.holds,(t.line x.order.toNat x.line.toNat).good=(s.line x.order.toNat x.line.toNat).good) (b g:Int):iO t b g=iO s b g:=by
 unfold iO;rw [hh];congr 1
 apply Ef;intro h hm;unfold mZ;rw [hg h hm]
theorem iQ {on:List (List Int)} {b g b' g':Nat} {n:Int} (hb:b<on.length) (hg:g<(rowAt on b).length):cell (setCell on b g n) b' g'=if b'=b∧g'=g then n else cell on b' g':=Z4 hb hg
theorem uM {on:List (List Int)} {b g:Nat} {n:Int} (hb:b<on.length) (hg:g<(rowAt on b).length) (g':Nat):sumOf (setCell on b g n) g'=sumOf on g'+if g'=g then n - cell on b g else 0:=by
 unfold sumOf;rw [iY];by_cases h:g'=g
 ·subst h;rw [ak rfl];refine vP (i:=b) hb (fun k hk hne=>?_) ?_
  ·show cell _ k g'=_;rw [iQ hb hg,ah (by omega)]
  ·show cell _ b g'=_;rw [iQ hb hg,ak ⟨rfl,rfl⟩];omega
 ·rw [ah h,mM];refine sumTo_congr fun k hk=>?_
  show cell (setCell on b g n) k g'=cell on k g';rw [iQ hb hg,ah (by omega)]
theorem E5 {p:Plan} {l:List Int} {lo:Int} (h:kX p l lo=true) {g:Nat} (hg:g<l.length) {n:Int} (h1:lo≤n) (h2:n≤1048576):kX p (l.set g n) lo=true:=by
 obtain ⟨h3,h4⟩:=jr.1 h;refine jr.2 ⟨by simpa using h3,uo 0 fun k hk=>?_⟩
 have e:(l.set g n).getD k 0=if k=g then n else aC l k:=AA hg
 rw [e];split
 ·exact within_iff.2 ⟨h1,h2⟩
 ·exact kY 0 h4 (by simpa using hk)
theorem DL {p:Plan} {s:State} {b g n:Int} (h:(receive p s b g n).2=0):
  checkState p s=0∧fD p b=true∧bU p g=true∧(1≤n∧n≤200)∧n*aC p.sizes g.toNat≤free p s b∧cell s.on b.toNat g.toNat+coming s b g+n≤200∧aC s.inn g.toNat+n≤1048576∧
  (receive p s b g n).1={s with on:=setCell s.on b.toNat g.toNat (cell s.on b.toNat g.toNat+n),inn:=s.inn.set g.toNat (aC s.inn g.toNat+n)}:=by
 unfold receive at h ⊢
 by_cases h1:checkState p s=0
 ·rw [ah (fun hn=>hn h1)] at h ⊢
  by_cases h2:(fD p b&&bU p g&&within n 1 200)=true
  ·rw [ah (by rw [h2];simp)] at h ⊢
   split at h
   ·simp at h
   ·rename_i h3
    rw [ah h3];split at h
    ·simp at h
    ·rename_i h4
     rw [ah h4];rw [dL,dL,within_iff] at h2
     exact ⟨h1,h2.1.1,h2.1.2,h2.2,by omega,by omega,by omega,rfl⟩
  ·rw [ak (by rw [yZ] at h2;rw [h2];rfl)] at h
   simp at h
 ·rw [ak h1] at h
  exact absurd h h1
theorem received {p:Plan} {s:State} {b g:Nat} {n:Int} (h:checkState p s=0) (hb:b<p.aH.length) (hg:g<p.sizes.length) (hn:1≤n) (h2:cell s.on b g+coming s b g+n≤200) (h3:aC s.inn g+n≤1048576):
  checkState p {s with on:=setCell s.on b g (cell s.on b g+n),inn:=s.inn.set g (aC s.inn g+n)}=0:=by
 obtain ⟨hr,DU⟩:=iE.1 h;have hs:=hr.sane;have hbl:b<s.on.length:=by rw [hs.ku];exact hb
 have hgl:g<(rowAt s.on b).length:=by rw [hs.rowLen hb];exact hg
 have hgi:g<s.inn.length:=by rw [hs.inn.1];exact hg
 have hcell:=hs.cell hb hg;have hinn:=hs.inn.2 hg;have hcom:=nN hs b g;refine iE.2 ⟨Right.of (iI.of ?_ hs.jh hs.lJ (fun o ho=>⟨hs.jX ho,hs.kind ho⟩) (fun o k ho hk=>jF.2 (hs.line ho hk)) hs.holds (fun x hx=>bY.1 (aS.1 hs.form).2.2.1 x hx) (fun x hx=>bY.1 (aS.1 hs.form).2.2.2.1 x hx)
  (E5 (aS.1 hs.form).2.2.2.2.1 hgi (by omega) h3) (aS.1 hs.form).2.2.2.2.2.1 (aS.1 hs.form).2.2.2.2.2.2) (fun g' hg'=>?_) (fun b' g' hb' hg'=>?_) hr.line,DU⟩
 ·exact dM.2 ⟨hs.plan,E8 (dM.1 hs.shelf).2 (by omega) hb hg⟩
 ·show sumOf (setCell s.on b g (cell s.on b g+n)) g'=aC (s.inn.set g (aC s.inn g+n)) g' - aC s.out g'+aC s.fixed g';rw [uM hbl hgl,AA hgi,hr.sum hg'];by_cases e:g'=g
  ·subst e;rw [ak rfl,ak rfl];omega
  ·rw [ah e,ah e];omega
 ·show bound s b' g'≤cell (setCell s.on b g (cell s.on b g+n)) b' g';have:=hr.bnd hb' hg';rw [iQ hbl hgl];split
  ·rename_i e
   obtain ⟨rfl,rfl⟩:=e;omega
  ·exact this
theorem VI {p:Plan} {s:State} {b g n:Int} (h:(receive p s b g n).2=0):
  checkState p (receive p s b g n).1=0∧checkState p s=0∧fD p b=true∧bU p g=true∧fC (receive p s b g n).1 b g=fC s b g+n∧0≤free p (receive p s b g n).1 b:=by
 obtain ⟨h1,h2,h3,h4,h5,h6,h7,h8⟩:=DL h;have hr:=cO h1;obtain ⟨bn,rfl,hbn⟩:=Xg h2;obtain ⟨gn,rfl,hgn⟩:=RF h3;simp only [eH] at h5 h6 h7 h8
 have hbl:bn<s.on.length:=by rw [hr.sane.ku];exact hbn
 have hgl:gn<(rowAt s.on bn).length:=by rw [hr.sane.rowLen hbn];exact hgn
 rw [h8];refine ⟨received h1 hbn hgn h4.1 h6 h7,h1,h2,h3,?_,?_⟩
 ·unfold fC;show cell (setCell s.on bn gn (cell s.on bn gn+n)) (bn:Int).toNat (gn:Int).toNat - bound s bn gn=_;simp only [eH];rw [iQ hbl hgl,ak ⟨rfl,rfl⟩];omega
 ·unfold free at h5 ⊢
  simp only [eH] at h5 ⊢
  have:sumTo (fun g=>(cell (setCell s.on bn gn (cell s.on bn gn+n)) bn g+coming s bn g)*aC p.sizes g) p.sizes.length=sumTo (fun g=>(cell s.on bn g+coming s bn g)*aC p.sizes g) p.sizes.length+n*aC p.sizes gn:=by
   refine vP (i:=gn) hgn (fun k hk hne=>?_) ?_
   ·show (cell (setCell s.on bn gn (cell s.on bn gn+n)) bn k+coming s bn k)*aC p.sizes k=_;rw [iQ hbl hgl,ah (by omega)]
   ·show (cell (setCell s.on bn gn (cell s.on bn gn+n)) bn gn+coming s bn gn)*aC p.sizes gn=_;rw [iQ hbl hgl,ak ⟨rfl,rfl⟩,← GN];congr 1
    omega
  have e:∀ g:Nat,coming {s with on:=setCell s.on bn gn (cell s.on bn gn+n),inn:=s.inn.set gn (aC s.inn gn+n)} bn g=coming s bn g:=fun _=>rfl
  simp only [e];rw [this];omega
theorem Iq {p:Plan} {s:State} {l:List Line} (h:(enter p s l).2=0):
  checkState p s=0∧s.orders.length<4∧(1≤l.length∧l.length≤3)∧(∀ x∈l,(bU p x.good=true∧1≤x.want∧x.want≤200)∧x.got=0∧x.back=0)∧(enter p s l).1={s with orders:=s.orders++[⟨0,l⟩]}:=by
 unfold enter at h ⊢
 by_cases h1:checkState p s=0
 ·rw [ah (fun hn=>hn h1)] at h ⊢
  split at h
  ·simp at h
  ·rename_i h2
   rw [ah h2];split at h
   ·simp at h
   ·rename_i h3
    rw [ah h3];split at h
    ·simp at h
    ·rename_i h4
     rw [ah h4];have h2':s.orders.length<4∧within l.length 1 3=true:=by
      constructor
      ·exact Nat.lt_of_not_le fun hh=>h2 (.inl hh)
      ·cases hq:within (l.length:Int) 1 3
       ·exact absurd (.inr (by rw [hq];rfl)) h2
       ·rfl
     have h3':(l.all fun x=>bU p x.good&&within x.want 1 200)=true:=by simpa using h3
     have h4':(l.all fun x=>decide (x.got=0)&&decide (x.back=0))=true:=by simpa using h4
     refine ⟨h1,h2'.1,by have:=within_iff.1 h2'.2;omega,fun x hx=>⟨?_,?_⟩,rfl⟩
     ·have:=bY.1 h3' x hx;rw [dL,within_iff] at this
      exact this
     ·have:=bY.1 h4' x hx;rw [dL,dR,dR] at this
      exact this
 ·rw [ak h1] at h
  exact absurd h h1
theorem jdw {p:Plan} {s:State} (hs:iI p s) {o:Nat} (ho:s.orders.length≤o) (k:Int):kept s.holds o k=0:=by
 unfold kept;rw [filter_none]
 ·rfl
 ·intro x hx;obtain ⟨i,hi,rfl⟩:=cZ hx;have:=(hs.oP hi).1;rw [bV hi] at this
  unfold qV;rw [iU (by omega),GU]
theorem jbX {p:Plan} {s:State} {l:List Line} (h:(enter p s l).2=0):checkState p (enter p s l).1=0∧(enter p s l).1.orders.length=s.orders.length+1∧(enter p s l).1.holds=s.holds:=by
 obtain ⟨h1,h2,h3,h4,h5⟩:=Iq h;rw [h5];refine ⟨?_,by simp,rfl⟩
 obtain ⟨hr,DU⟩:=iE.1 h1;have hs:=hr.sane;have hor:∀ o,o<s.orders.length→({s with orders:=s.orders++[⟨0,l⟩]}:State).order o=s.order o:=fun o ho=>by
  unfold State.order ay;simp [ho,nZ]
 have hnew:({s with orders:=s.orders++[⟨0,l⟩]}:State).order s.orders.length=⟨0,l⟩:=by
  unfold State.order ay;simp
 have hln:∀ o k,o<s.orders.length→({s with orders:=s.orders++[⟨0,l⟩]}:State).line o k=s.line o k:=fun o k ho=>by
  unfold State.line;rw [hor o ho]
 have hcase:∀ o,o<({s with orders:=s.orders++[⟨0,l⟩]}:State).orders.length→o<s.orders.length∨o=s.orders.length:=fun o ho=>by
  have:o<s.orders.length+1:=by simpa using ho
  omega
 have hbound:∀ b g:Int,bound {s with orders:=s.orders++[⟨0,l⟩]} b g=bound s b g:=fun b g=>by
  unfold bound;have:iO {s with orders:=s.orders++[⟨0,l⟩]} b g=iO s b g:=Kt (s:=s) (t:={s with orders:=s.orders++[⟨0,l⟩]}) rfl (fun x hx=>by
   obtain ⟨i,hi,rfl⟩:=cZ hx;have:=(hs.oP hi).1;rw [bV hi] at this
   rw [hln _ _ (by omega)]) b g
  rw [this]
 have hl:∀ k,k<l.length→jY p (bH l k)=true∧(bH l k).got=0∧(bH l k).back=0:=fun k hk=>by
  have:=h4 (bH l k) (by rw [iZ hk];exact eF hk)
  refine ⟨jF.2 ⟨lM.1 this.1.1,this.1.2,by omega,by omega⟩,this.2⟩
 refine iE.2 ⟨Right.of (iI.of hs.shelf (by simp;omega) hs.lJ (fun o ho=>?_) (fun o k ho hk=>?_) hs.holds (fun x hx=>?_) (fun x hx=>bY.1 (aS.1 hs.form).2.2.2.1 x hx)
  (aS.1 hs.form).2.2.2.2.1 (aS.1 hs.form).2.2.2.2.2.1 (aS.1 hs.form).2.2.2.2.2.2) (fun g hg=>hr.sum hg) (fun b g hb hg=>by rw [hbound];exact hr.bnd hb hg) (fun o k ho hk=>?_),fun o ho=>?_⟩
 ·rcases hcase o ho with ho|rfl
  ·rw [hor o ho];exact ⟨hs.jX ho,hs.kind ho⟩
  ·rw [hnew];exact ⟨h3,by simp only;omega⟩
 ·rcases hcase o ho with ho|rfl
  ·rw [hor o ho] at hk
   rw [hln o k ho];exact jF.2 (hs.line ho hk)
  ·rw [hnew] at hk
   unfold State.line;rw [hnew];exact (hl k hk).1
 ·have hq:=ig.1 (bY.1 (aS.1 hs.form).2.2.1 x hx);obtain ⟨i,hi,rfl⟩:=cZ hx;have h0:=(hs.oP hi).1;rw [bV hi] at h0
  change s.holds[i].order<_∧_ at hq
  refine ig.2 ⟨?_,?_,hq.2.2⟩
  ·have:=hq.1;change s.holds[i].order<_;simp only [dK,gQ,je];omega
  ·rw [hor _ (by change s.holds[i].order.toNat<_;omega)]
   exact hq.2.1
 ·rcases hcase o ho with ho|rfl
  ·rw [hor o ho] at hk
   rw [kP,hln o k ho,hor o ho];exact hr.qI ho hk
  ·rw [hnew] at hk
   rw [kP];unfold State.line;rw [hnew];have e:kept ({s with orders:=s.orders++[⟨0,l⟩]}:State).holds s.orders.length k=0:=jdw hs (aA _) k
   rw [e];obtain ⟨_,h6,h7⟩:=hl k hk;simp only [ite_true];omega
 ·rcases hcase o ho with ho|rfl
  ·rw [hor o ho];exact DU o ho
  ·rw [hnew];simp
end Wh
