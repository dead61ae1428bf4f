/- Texts of the claim, joined. -/
import Derived.Test.YtfhfkijmebhgmaaGreatQ04
set_option maxHeartbeats 20000000
set_option maxRecDepth 100000
namespace Wh
theorem tX {α β:Type} {P:β→Prop} {f:β→α→β}:∀ {l:List α} {t:β},(∀ t x,x∈l→P t→P (f t x))→P t→P (l.foldl f t)
 |[],_,_,h=>h
 |x::l,_,hs,h=>tX (l:=l) (fun t y hy=>hs t y (fA _ hy)) (hs _ x (iK ..) h)
structure mW (p:Plan) (s t:State):Prop where
 right:Right p t
 got:∀ o,o<t.orders.length→¬ ((t.order o).kind=1∧iH (t.order o)=true)
 rest:t={s with moves:=t.moves}
 ext:∃ l,t.moves=s.moves++l∧∀ x∈l,((0≤x.src∧x.src<p.aH.length)∧(0≤x.dst∧x.dst<p.aH.length)∧(0≤x.good∧x.good<p.sizes.length))∧(p.bin x.src.toNat).front=false∧(p.bin x.dst.toNat).front=true∧
  cell s.on x.dst.toNat x.good.toNat+coming t x.dst x.good≤(p.bin x.dst.toNat).high
 less:∀ b:Nat,b<p.aH.length→free p t b≤free p s b∧(free p t b<free p s b→0≤free p t b)
section
variable {p:Plan} {s t:State} {b g f:Nat} {n:Int}
theorem WS (l:List Move) (x:Move) (b g:Int):fJ (l++[x]) b g=fJ l b g+qB b g x:=by
 unfold fJ;rw [jl,Gs];simp
theorem Ud (l:List Move) (x:Move) (b g:Int):EN (l++[x]) b g=EN l b g+toN b g x:=by
 unfold EN;rw [jl,Gs];simp
def addMove (t:State) (x:Move):State:={t with moves:=t.moves++[x]}
theorem Ug (x:Move) (b g:Int):bound (addMove t x) b g=bound t b g+qB b g x:=by
 unfold bound;have e:iO (addMove t x) b g=iO t b g:=rfl;have e2:fJ (addMove t x).moves b g=fJ t.moves b g+qB b g x:=WS _ _ _ _;rw [e,e2];omega
theorem xG (x:Move) (b g:Int):coming (addMove t x) b g=coming t b g+toN b g x:=Ud _ _ _ _
theorem Xl (b':Nat) (hg:g<p.sizes.length):free p (addMove t ⟨g,f,b,n⟩) b'=free p t b' - if b'=b then n*aC p.sizes g else 0:=by
 unfold free;by_cases h:b'=b
 ·subst h;rw [ak rfl];have:=vP (f:=fun g=>(cell t.on (b':Int).toNat g+coming t b' g)*aC p.sizes g) (g:=fun g'=>(cell (addMove t ⟨g,f,b',n⟩).on (b':Int).toNat g'+coming (addMove t ⟨g,f,b',n⟩) b' g')*aC p.sizes g') (n:=p.sizes.length) (i:=g) (d:=n*aC p.sizes g) hg (fun k hk hne=>by
   have e:coming (addMove t ⟨g,f,b',n⟩) b' k=coming t b' k:=by
    rw [xG];unfold toN;rw [ah (by simp only;omega),mM]
   simp only [e];rfl) (by
   have e:coming (addMove t ⟨g,f,b',n⟩) b' g=coming t b' g+n:=by
    rw [xG];unfold toN;rw [ak ⟨rfl,rfl⟩]
   simp only [e];have e1:(addMove t ⟨g,f,b',n⟩).on=t.on:=rfl;rw [e1,← GN];congr 1
   omega)
  rw [this];omega
 ·rw [ah h,yX];congr 1
  refine sumTo_congr fun k hk=>?_
  have e:coming (addMove t ⟨g,f,b,n⟩) b' k=coming t b' k:=by
   rw [xG];unfold toN;rw [ah (by simp only;omega),mM]
  rw [e];rfl
theorem jdX {r z n:Int} (hz:1≤z) (hn:1≤n) (h:n≤r.tdiv z):n*z≤r:=by
 have h0:0<r:=by
  refine Classical.byContradiction fun hr=>?_
  have h1:(-r).tdiv z= -(r.tdiv z):=Int.neg_tdiv ..;have h2:0≤(-r).tdiv z:=Int.tdiv_nonneg (by omega) (by omega)
  omega
 have h1:z*r.tdiv z+r.tmod z=r:=Int.mul_tdiv_add_tmod r z;have h2:0≤r.tmod z:=Int.tmod_nonneg _ (by omega)
 have h3:n*z≤r.tdiv z*z:=XQ h (by omega)
 have h4:r.tdiv z*z=z*r.tdiv z:=Int.mul_comm _ _;omega
theorem ZE (h:mW p s t) (hb:b<p.aH.length) (hg:g<p.sizes.length) (hf:f<p.aH.length) (hbf:(p.bin b).front=true) (S9:(p.bin f).front=false) (h8:t.moves.length<8) (hn:0<n)
  (h1:n≤(p.bin b).high - cell t.on b g - coming t b g) (h2:n≤fC t f g) (h3:n*aC p.sizes g≤free p t b):mW p s (addMove t ⟨g,f,b,n⟩):=by
 have hr:=h.right;have hs:=hr.sane;have hfb:f≠b:=fun e=>by rw [e,hbf] at S9;cases S9
 have hav:=hr.IL hf hg;have hcl:=hs.cell hf hg;have hon:t.on=s.on:=by rw [h.rest]
 refine ⟨Right.of (iI.of hs.shelf hs.jh ?_ (fun o ho=>⟨hs.jX ho,hs.kind ho⟩) (fun o k ho hk=>jF.2 (hs.line ho hk)) hs.holds (fun x hx=>bY.1 (aS.1 hs.form).2.2.1 x hx) (fun x hx=>?_)
  (aS.1 hs.form).2.2.2.2.1 (aS.1 hs.form).2.2.2.2.2.1 (aS.1 hs.form).2.2.2.2.2.2) (fun g' hg'=>hr.sum hg') (fun b' g' hb' hg'=>?_) (fun o k ho hk=>hr.line o k ho hk),h.got,?_,?_,fun b' hb'=>?_⟩
 ·show (t.moves++[_]).length≤8;simp
  omega
 ·rcases qQ.1 hx with hx|hx
  ·exact bY.1 (aS.1 hs.form).2.2.2.1 x hx
  ·obtain rfl:=pX.1 hx;exact xZ.2 ⟨by simp only;omega,by simp only;omega,by simp only;omega,by simp only;omega,by simp only;omega,by simp only;omega⟩
 ·have hq:=hr.bnd hb' hg';rw [Ug];have e1:(addMove t ⟨g,f,b,n⟩).on=t.on:=rfl;rw [e1];unfold qB;simp only;split
  ·rename_i hc
   obtain ⟨c1,c2⟩:=hc;obtain rfl:f=b':=by omega
   obtain rfl:g=g':=by omega
   unfold fC at h2
   simp only [eH] at h2
   omega
  ·omega
 ·have:=h.rest;unfold addMove;simp only;rw [this]
 ·obtain ⟨l,hl,hx⟩:=h.ext;refine ⟨l++[⟨g,f,b,n⟩],?_,fun x hxm=>?_⟩
  ·show t.moves++[_]=_;rw [hl,jo]
  ·rw [xG];unfold toN;simp only;rcases qQ.1 hxm with hxm|hxm
   ·obtain ⟨x1,x2,x3,x4⟩:=hx x hxm;refine ⟨x1,x2,x3,?_⟩
    split
    ·rename_i hc
     obtain ⟨c1,c2⟩:=hc;rw [← c1,← c2];simp only [eH];rw [← hon];omega
    ·omega
   ·obtain rfl:=pX.1 hxm;refine ⟨⟨by simp only;omega,by simp only;omega,by simp only;omega⟩,by simpa using S9,by simpa using hbf,?_⟩
    rw [ak ⟨rfl,rfl⟩];simp only [eH];rw [← hon];omega
 ·obtain ⟨l1,l2⟩:=h.less b' hb';rw [Xl b' hg];have hsz:=pR hs.plan hg;have hpos:0≤n*aC p.sizes g:=PY (by omega) (by omega)
  by_cases e:b'=b
  ·subst e;rw [ak rfl];omega
  ·rw [ah e];omega
theorem KD (h:mW p s t) (hb:b<p.aH.length) (hg:g<p.sizes.length) (hf:f<p.aH.length) (hbf:(p.bin b).front=true) (S9:(p.bin f).front=false):mW p s (zT p t b g f):=by
 unfold zT;split
 ·exact h
 ·split
  ·rename_i h8 hn
   have hsz:=pR h.right.sane.plan hg;have hN:zC p t b g f≤(p.bin b).high - cell t.on b g - coming t b g∧zC p t b g f≤fC t f g∧zC p t b g f≤(free p t b).tdiv (aC p.sizes g):=by
    unfold zC;omega
   exact ZE h hb hg hf hbf S9 (by omega) hn hN.1 hN.2.1 (jdX hsz.1 (by omega) hN.2.2)
  ·exact h
theorem Il (h:mW p s t) (hb:b<p.aH.length) (hg:g<p.sizes.length) (hbf:(p.bin b).front=true):mW p s (jW p b t g):=by
 unfold jW;split
 ·exact tX (P:=mW p s) (fun _ _ hf h=>KD h hb hg (tu.1 hf).1 hbf (tu.1 hf).2) h
 ·exact h
theorem KE (h:mW p s t) (hb:b<p.aH.length) (hbf:(p.bin b).front=true):mW p s ((List.range p.sizes.length).foldl (jW p b) t):=
 tX (P:=mW p s) (fun _ _ hg h=>Il h hb (lu.1 hg) hbf) h
theorem Ik (h:checkState p s=0):mW p s s:=by
 obtain ⟨h1,h2⟩:=iE.1 h;exact ⟨h1,h2,rfl,⟨[],by simp,fun x hx=>by simp at hx⟩,fun b hb=>⟨jI _,fun hh=>absurd hh (by omega)⟩⟩
theorem WX (h:checkState p s=0):mW p s (Io p s):=
 tX (P:=mW p s) (fun _ _ hb h=>KE h (tu.1 hb).1 (tu.1 hb).2) (Ik h)
theorem WW (h:mW p s t):checkState p t=0:=iE.2 ⟨h.right,h.got⟩
theorem ZF {t:State} (h:8≤t.moves.length) (p:Plan) (b g f:Nat):zT p t b g f=t:=by unfold zT;rw [ak h]
theorem JI (h:8≤t.moves.length) (p:Plan) (b g:Nat):jW p b t g=t:=by
 unfold jW;split
 ·exact tX (P:=fun u=>u=t) (fun u f _ hu=>by rw [hu];exact ZF h p b g f) rfl
 ·rfl
theorem WY (h:8≤t.moves.length) (p:Plan) (b:Nat) (l:List Nat):l.foldl (jW p b) t=t:=
 tX (P:=fun u=>u=t) (fun u g _ hu=>by rw [hu];exact JI h p b g) rfl
theorem TV (h:8≤t.moves.length) (p:Plan) (l:List Nat):l.foldl (fun t b=>(List.range p.sizes.length).foldl (jW p b) t) t=t:=
 tX (P:=fun u=>u=t) (fun u b _ hu=>by rw [hu];exact WY h p b _) rfl
theorem RQ (h:(fill p s).2=0):checkState p s=0∧(fill p s).1=Io p s:=by
 unfold fill at h ⊢
 by_cases h1:checkState p s=0
 ·rw [ah (fun hn=>hn h1)]
  exact ⟨h1,rfl⟩
 ·rw [ak h1] at h
  exact absurd h h1
end
section
variable {p:Plan} {s:State} {k:Nat} {n:Int}
theorem Nb {α:Type} (f:α→Int):∀ {l:List α} {k:Nat} (hk:k<l.length),((l.eraseIdx k).map f).sum=(l.map f).sum - f l[k]
 |x::l,0,_=>by simp;omega
 |x::l,k+1,hk=>by
  have:=Nb f (l:=l) (k:=k) (by simpa using hk)
  simp only [List.eraseIdx_cons_succ,dP,kE,Ll];omega
structure Moves (p:Plan) (s:State) (k:Nat) (n:Int):Prop where
 hk:k<s.moves.length
 n0:0≤n
 n1:n≤(aB s.moves k).n
 full:cell s.on (aB s.moves k).dst.toNat (aB s.moves k).good.toNat+n≤200
theorem Zy (hs:iI p s) (hk:k<s.moves.length):(aB s.moves k).n≤fJ s.moves (aB s.moves k).src (aB s.moves k).good:=by
 have h1:=Nb (qB (aB s.moves k).src (aB s.moves k).good) hk;have h2:0≤((s.moves.eraseIdx k).map (qB (aB s.moves k).src (aB s.moves k).good)).sum:=(wW (m:=200) (fun x hx=>by
  obtain ⟨y,hy,rfl⟩:=qO.1 hx;obtain ⟨i,hi,rfl⟩:=cZ (XC hy);have:=hs.aB hi;rw [Wh.iM hi] at this
  unfold qB;split<;>omega)).1
 have h3:qB (aB s.moves k).src (aB s.moves k).good s.moves[k]=(aB s.moves k).n:=by
  rw [iM hk];unfold qB;rw [ak ⟨rfl,rfl⟩]
 unfold fJ;omega
theorem QJ (hc:checkState p s=0) (f:Moves p s k n) {b g:Nat} (hb:b<p.aH.length) (hg:g<p.sizes.length):cell (qH s k n).on b g=cell s.on b g+if (g:Int)=(aB s.moves k).good∧(b:Int)=(aB s.moves k).dst then n else if (g:Int)=(aB s.moves k).good∧(b:Int)=(aB s.moves k).src then -n else 0:=by
 have hs:=(cO hc).sane;obtain ⟨m1,m2,m3,m4,m5,m6⟩:=hs.aB f.hk;have h1:(aB s.moves k).src.toNat<s.on.length:=by rw [hs.ku];omega
 have h2:(aB s.moves k).good.toNat<(rowAt s.on (aB s.moves k).src.toNat).length:=by rw [hs.rowLen (by omega)];omega
 have h3:(aB s.moves k).dst.toNat<(setCell s.on (aB s.moves k).src.toNat (aB s.moves k).good.toNat (cell s.on (aB s.moves k).src.toNat (aB s.moves k).good.toNat - n)).length:=by rw [iY,hs.ku];omega
 have h4:(aB s.moves k).good.toNat<(rowAt (setCell s.on (aB s.moves k).src.toNat (aB s.moves k).good.toNat (cell s.on (aB s.moves k).src.toNat (aB s.moves k).good.toNat - n)) (aB s.moves k).dst.toNat).length:=by
  rw [kK,hs.rowLen (by omega)];omega
 have e:cell (qH s k n).on b g=_:=iQ h3 h4;rw [e,iQ h1 h2,iQ h1 h2];by_cases c1:(g:Int)=(aB s.moves k).good∧(b:Int)=(aB s.moves k).dst
 ·rw [ak (by omega),ah (by omega),ak c1]
  obtain ⟨rfl,rfl⟩:b=(aB s.moves k).dst.toNat∧g=(aB s.moves k).good.toNat:=by omega
  rfl
 ·rw [ah (by omega),ah c1]
  by_cases c2:(g:Int)=(aB s.moves k).good∧(b:Int)=(aB s.moves k).src
  ·rw [ak (by omega),ak c2]
   obtain ⟨rfl,rfl⟩:b=(aB s.moves k).src.toNat∧g=(aB s.moves k).good.toNat:=by omega
   omega
  ·rw [ah (by omega),ah c2,mM]
theorem YL (f:Moves p s k n) (b g:Int):bound (qH s k n) b g=bound s b g - if (aB s.moves k).src=b∧(aB s.moves k).good=g then (aB s.moves k).n else 0:=by
 unfold bound;have e1:iO (qH s k n) b g=iO s b g:=rfl;have e2:fJ (qH s k n).moves b g=_:=Nb (qB b g) f.hk;rw [e1,e2];have e3:qB b g (s.moves[k]'f.hk)=if (aB s.moves k).src=b∧(aB s.moves k).good=g then (aB s.moves k).n else 0:=by
  rw [iM f.hk];rfl
 rw [e3];unfold fJ;omega
theorem jdp (hc:checkState p s=0) (f:Moves p s k n) {g:Nat} (_:g<p.sizes.length):sumOf (qH s k n).on g=sumOf s.on g:=by
 have hs:=(cO hc).sane;obtain ⟨m1,m2,m3,m4,m5,m6⟩:=hs.aB f.hk;have h1:(aB s.moves k).src.toNat<s.on.length:=by rw [hs.ku];omega
 have h2:(aB s.moves k).good.toNat<(rowAt s.on (aB s.moves k).src.toNat).length:=by rw [hs.rowLen (by omega)];omega
 have h3:(aB s.moves k).dst.toNat<(setCell s.on (aB s.moves k).src.toNat (aB s.moves k).good.toNat (cell s.on (aB s.moves k).src.toNat (aB s.moves k).good.toNat - n)).length:=by rw [iY,hs.ku];omega
 have h4:(aB s.moves k).good.toNat<(rowAt (setCell s.on (aB s.moves k).src.toNat (aB s.moves k).good.toNat (cell s.on (aB s.moves k).src.toNat (aB s.moves k).good.toNat - n)) (aB s.moves k).dst.toNat).length:=by
  rw [kK,hs.rowLen (by omega)];omega
 have e:sumOf (qH s k n).on g=_:=uM h3 h4 g;rw [e,uM h1 h2,iQ h1 h2,ah (show ¬ ((aB s.moves k).dst.toNat=(aB s.moves k).src.toNat∧_) by omega)]
 split<;>omega
theorem YK (hc:checkState p s=0) (f:Moves p s k n):checkState p (qH s k n)=0:=by
 obtain ⟨hr,DU⟩:=iE.1 hc;have hs:=hr.sane;obtain ⟨m1,m2,m3,m4,m5,m6⟩:=hs.aB f.hk;have hge:=Zy hs f.hk;have n0:=f.n0;have n1:=f.n1;have hlen:(qH s k n).on.length=p.aH.length:=by
  show (setCell (setCell _ _ _ _) _ _ _).length=_;rw [iY,iY,hs.ku]
 have hrow:∀ b,b<p.aH.length→(rowAt (qH s k n).on b).length=p.sizes.length:=fun b hb=>by
  show (rowAt (setCell (setCell _ _ _ _) _ _ _) b).length=_;rw [kK,kK,hs.rowLen hb]
 obtain ⟨gs,hgs⟩:∃ gs:Nat,(aB s.moves k).good=gs:=⟨(aB s.moves k).good.toNat,by omega⟩
 obtain ⟨bs,hbs⟩:∃ bs:Nat,(aB s.moves k).src=bs:=⟨(aB s.moves k).src.toNat,by omega⟩
 obtain ⟨ds,hds⟩:∃ ds:Nat,(aB s.moves k).dst=ds:=⟨(aB s.moves k).dst.toNat,by omega⟩
 have hbn:=hr.bnd (b:=bs) (g:=gs) (by omega) (by omega)
 have hhl:=tN hs bs gs s.holds.length;rw [yu] at hhl
 have hfull:=f.full;rw [hgs,hds] at hfull
 simp only [eH] at hfull
 refine iE.2 ⟨Right.of (iI.of ?_ hs.jh ?_ (fun o ho=>⟨hs.jX ho,hs.kind ho⟩) (fun o k ho hk=>jF.2 (hs.line ho hk)) hs.holds (fun x hx=>bY.1 (aS.1 hs.form).2.2.1 x hx) (fun x hx=>?_)
  (aS.1 hs.form).2.2.2.2.1 (aS.1 hs.form).2.2.2.2.2.1 (aS.1 hs.form).2.2.2.2.2.2) (fun g' hg'=>?_) (fun b' g' hb' hg'=>?_) (fun o k ho hk=>hr.line o k ho hk),DU⟩
 ·refine dM.2 ⟨hs.plan,zl.2 ⟨hlen,fun b hb=>?_⟩⟩
  rw [hlen] at hb
  refine ⟨hrow b hb,fun g hg=>?_⟩
  rw [QJ hc f hb hg];have hcl:=hs.cell hb hg;rw [hgs,hbs,hds];split
  ·rename_i c
   obtain ⟨rfl,rfl⟩:g=gs∧b=ds:=by omega
   omega
  ·split
   ·rename_i c
    obtain ⟨rfl,rfl⟩:g=gs∧b=bs:=by omega
    unfold bound at hbn
    rw [hgs,hbs] at hge
    omega
   ·omega
 ·show (s.moves.eraseIdx k).length≤8;rw [Gw];have:=hs.lJ;split<;>omega
 ·exact bY.1 (aS.1 hs.form).2.2.2.1 x (XC hx)
 ·rw [jdp hc f hg'];exact hr.sum hg'
 ·have hq:=hr.bnd hb' hg';rw [YL f,QJ hc f hb' hg'];rw [hgs,hbs,hds];have hsd:bs≠ds:=by omega
  split
  ·rename_i c
   obtain ⟨c1,c2⟩:=c;rw [ah (by omega),ak (by omega)]
   omega
  ·rename_i c
   split<;>omega
theorem N7 {k n:Int} (h:(moved p s k n).2=0):checkState p s=0∧∃ i:Nat,k=i∧Moves p s i n∧(moved p s k n).1=qH s i n:=by
 unfold moved at h ⊢
 by_cases h1:checkState p s=0
 ·rw [ah (fun hn=>hn h1)] at h ⊢
  cases h2:within k 0 (s.moves.length - 1)
  ·rw [h2,ak (by rfl)] at h
   simp at h
  rw [h2,ah (by simp)] at h
  rw [ah (by simp)]
  cases h3:within n 0 (aB s.moves k.toNat).n
  ·rw [h3,ak (by rfl)] at h
   simp at h
  rw [h3,ah (by simp)] at h
  rw [ah (by simp)]
  have h2':=within_iff.1 h2;have h3':=within_iff.1 h3;by_cases h4:200<cell s.on (aB s.moves k.toNat).dst.toNat (aB s.moves k.toNat).good.toNat+n
  ·rw [ak h4] at h
   simp at h
  rw [ah h4];exact ⟨h1,k.toNat,by omega,⟨by omega,h3'.1,h3'.2,by omega⟩,rfl⟩
 ·rw [ak h1] at h
  exact absurd h h1
end
section
variable {p:Plan} {s:State} {k n:Int}
theorem ZG (h:checkState p s≠0):fill p s=(dJ,checkState p s):=by unfold fill;rw [ak h]
theorem jcV (h:checkState p s=0):fill p s=(Io p s,0):=by unfold fill;rw [ah (fun hn=>hn h)]
theorem UJ (h:checkState p s≠0):moved p s k n=(dJ,checkState p s):=by unfold moved;rw [ak h]
theorem J4 (h:checkState p s=0) (h2:k<0∨(s.moves.length:Int)≤k):moved p s k n=(dJ,4):=by
 unfold moved;rw [ah (fun hn=>hn h),gY.2 (by omega)]
 rfl
theorem Hl {i:Nat} (h:checkState p s=0) (hi:i<s.moves.length) (h3:n<0∨(aB s.moves i).n<n):moved p s i n=(dJ,3):=by
 unfold moved;rw [ah (fun hn=>hn h),within_iff.2 (by omega),ah (by simp),eH,gY.2 h3]
 rfl
theorem QI {i:Nat} (h:checkState p s=0) (hi:i<s.moves.length) (h3:0≤n∧n≤(aB s.moves i).n) (h4:200<cell s.on (aB s.moves i).dst.toNat (aB s.moves i).good.toNat+n):moved p s i n=(dJ,2):=by
 unfold moved;rw [ah (fun hn=>hn h),within_iff.2 (by omega),ah (by simp),eH,within_iff.2 h3,ah (by simp),ak h4]
theorem YI {i:Nat} (h:checkState p s=0) (f:Moves p s i n):moved p s i n=(qH s i n,0):=by
 have hk:=f.hk;have h4:=f.full;unfold moved;rw [ah (fun hn=>hn h),within_iff.2 (by omega),ah (by simp),eH,within_iff.2 ⟨f.n0,f.n1⟩,ah (by simp),ah (by omega)]
end
section
variable {p:Plan} {s:State}
def fb (p:Plan) (s:State) (b:Nat):State:=(kZ p true b).foldl (fun t b=>(List.range p.sizes.length).foldl (jW p b) t) s
theorem jlE:fb p s p.aH.length=Io p s:=by unfold fb Io;rw [Dq]
def fg (p:Plan) (s:State) (b g:Nat):State:=(List.range g).foldl (jW p b) (fb p s b)
theorem WZ (b g:Nat):fg p s b (g+1)=jW p b (fg p s b g) g:=by
 unfold fg;rw [wL,yU];rfl
theorem jgT {b:Nat} (h:(p.bin b).front=true):fb p s (b+1)=fg p s b p.sizes.length:=by
 unfold fb fg;rw [wu h,yU];rfl
theorem jjR {b:Nat} (h:(p.bin b).front=false):fb p s (b+1)=fb p s b:=by
 unfold fb;rw [x9 (by unfold Plan.bin at h;rw [h];decide)]
def ff (p:Plan) (s:State) (b g f:Nat):State:=(kZ p false f).foldl (fun t f=>zT p t b g f) (fg p s b g)
theorem jiM (b g:Nat):ff p s b g 0=fg p s b g:=rfl
theorem ZI {b g f:Nat} (h:(p.bin f).front=true):ff p s b g (f+1)=ff p s b g f:=by
 unfold ff;rw [x9 (by unfold Plan.bin at h;rw [h];decide)]
theorem U5 {b g f:Nat} (h:(p.bin f).front=false):ff p s b g (f+1)=zT p (ff p s b g f) b g f:=by
 unfold ff;rw [wu h,yU];rfl
theorem jgS {b g:Nat} (h:cell (fg p s b g).on b g+coming (fg p s b g) b g<(p.bin b).low):fg p s b (g+1)=ff p s b g p.aH.length:=by
 rw [WZ];unfold jW ff;rw [ak h,Dq]
theorem jlD {b g:Nat} (h:¬ cell (fg p s b g).on b g+coming (fg p s b g) b g<(p.bin b).low):fg p s b (g+1)=fg p s b g:=by
 rw [WZ];unfold jW;rw [ah h]
theorem KG {t:State} {b g f:Nat} (h:8≤t.moves.length):zT p t b g f=t:=by unfold zT;rw [ak h]
theorem RS {t:State} {b g f:Nat} (h:¬ 8≤t.moves.length) (h2:0<zC p t b g f):zT p t b g f=addMove t ⟨g,f,b,zC p t b g f⟩:=by unfold zT;rw [ah h,ak h2];rfl
theorem RU {t:State} {b g f:Nat} (h:¬ 8≤t.moves.length) (h2:¬ 0<zC p t b g f):zT p t b g f=t:=by unfold zT;rw [ah h,ah h2]
theorem U6 (h:checkState p s=0):∀ b,b≤p.aH.length→mW p s (fb p s b)
 |0,_=>Ik h
 |b+1,hb=>by
  have ih:=U6 h b (by omega)
  cases hf:(p.bin b).front
  ·rw [jjR hf];exact ih
  ·rw [jgT hf];exact KE ih (by omega) hf
theorem NI (h:checkState p s=0) {b:Nat} (hb:b<p.aH.length) (hf:(p.bin b).front=true):∀ g,g≤p.sizes.length→mW p s (fg p s b g)
 |0,_=>U6 h b (by omega)
 |g+1,hg=>by
  rw [WZ];exact Il (NI h hb hf g (by omega)) hb (by omega) hf
theorem U4 (h:checkState p s=0) {b g:Nat} (hb:b<p.aH.length) (hf:(p.bin b).front=true) (hg:g<p.sizes.length):∀ f,f≤p.aH.length→mW p s (ff p s b g f)
 |0,_=>NI h hb hf g (by omega)
 |f+1,hl=>by
  have ih:=U4 h hb hf hg f (by omega)
  cases S9:(p.bin f).front
  ·rw [U5 S9];exact KD ih hb hg (by omega) hf S9
  ·rw [ZI S9];exact ih
end
structure bI (α:Type) where
 is:α→Bool
 num:α→Int
 put:α→Int→α
 Dk:∀ x n,num (put x n)=n
 jfl:∀ x n,is (put x n)=is x
 jhQ:∀ x n m,put (put x n) m=put x m
 VO:∀ x,put x (num x)=x
namespace bI
variable {α:Type} (C:bI α)
def part (x:α):Int:=if C.is x=true then C.num x else 0
def all (l:List α):Int:=(l.map C.part).sum
def less (v n:Int):Int:=min n (max v 0)
def cut:List α→Int→List α×Int
 |[],v=>([],v)
 |x::r,v=>if C.is x=true then (C.put x (C.num x - less (cut r v).2 (C.num x))::(cut r v).1,(cut r v).2 - less (cut r v).2 (C.num x)) else (x::(cut r v).1,(cut r v).2)
def keep (x:α):Bool:=!decide (C.num x=0)
def rest (l:List α) (v:Int):List α:=(C.cut l v).1.filter C.keep
def dec:List α→List α
 |[]=>[]
 |x::r=>if r.any C.is=true then x::dec r else if C.is x=true then (if C.num x=1 then r else C.put x (C.num x - 1)::r) else x::r
def Pos (l:List α):Prop:=∀ x∈l,1≤C.num x
variable {C}
theorem Pos.cons {x:α} {r:List α} (h:C.Pos (x::r)):1≤C.num x∧C.Pos r:=⟨h x (iK ..),fun y hy=>h y (fA _ hy)⟩
theorem all_cons (x:α) (r:List α):C.all (x::r)=C.part x+C.all r:=by unfold all;rw [dP,kE]
theorem vN {l:List α} (h:∀ x∈l,0≤C.num x):0≤C.all l:=by
 induction l with
 |nil=>exact jI _
 |cons x r ih=>
  have h1:=h x (iK ..);have h2:=ih fun y hy=>h y (fA _ hy)
  rw [all_cons];unfold part;split<;>omega
theorem Pos.nonneg {l:List α} (h:C.Pos l):0≤C.all l:=vN fun x hx=>by have:=h x hx;omega
theorem Ph {l:List α} (h:C.Pos l):l.any C.is=decide (0<C.all l):=by
 induction l with
 |nil=>rfl
 |cons x r ih=>
  obtain ⟨h1,h2⟩:=h.cons;have h3:=h2.nonneg;rw [LC,ih h2,all_cons];unfold part;cases hx:C.is x
  ·simp
  ·simp
   omega
theorem uh {x:α} (hx:C.is x=true) (r:List α) (v:Int):C.cut (x::r) v=(C.put x (C.num x - less (C.cut r v).2 (C.num x))::(C.cut r v).1,(C.cut r v).2 - less (C.cut r v).2 (C.num x)):=by rw [cut,ak hx]
theorem tZ {x:α} (hx:C.is x=false) (r:List α) (v:Int):C.cut (x::r) v=(x::(C.cut r v).1,(C.cut r v).2):=by rw [cut,ah (by rw [hx];simp)]
theorem CG {l:List α} (h:∀ x∈l,0≤C.num x) (v:Int):(C.cut l v).2=v - min (max v 0) (C.all l):=by
 induction l with
 |nil=>show v=v - min (max v 0) 0;omega
 |cons x r ih=>
  have h1:=h x (iK ..);have hr:=fun y hy=>h y (fA _ hy)
  have h2:=ih hr;have h3:=vN hr;rw [all_cons];unfold part;cases hx:C.is x
  ·rw [tZ hx];simp only [og,yN];omega
  ·rw [uh hx];simp only [wJ];unfold less;omega
theorem KI (l:List α) (v:Int):(C.cut l v).1.length=l.length:=by
 induction l with
 |nil=>rfl
 |cons x r ih=>
  cases hx:C.is x
  ·rw [tZ hx];simp [ih]
  ·rw [uh hx];simp [ih]
theorem jiS {l:List α} (h:∀ x∈l,0≤C.num x) (v:Int):C.all (C.cut l v).1=C.all l - min (max v 0) (C.all l):=by
 induction l with
 |nil=>show (0:Int)=0 - min (max v 0) 0;omega
 |cons x r ih=>
  have h1:=h x (iK ..);have hr:=fun y hy=>h y (fA _ hy)
  have h2:=ih hr;have h3:=vN hr;have h4:=CG hr v;rw [all_cons];cases hx:C.is x
  ·rw [tZ hx];simp only;rw [all_cons];unfold part;rw [hx];simp only [og,yN];omega
  ·rw [uh hx];simp only;rw [all_cons];unfold part;rw [C.jfl,hx,C.Dk];simp only [wJ];unfold less;omega
theorem jcY {l:List α} (h:∀ x∈l,0≤C.num x) (v:Int):∀ y∈(C.cut l v).1,∃ x∈l,y=C.put x (C.num y)∧0≤C.num y∧C.num y≤C.num x∧(C.is x=false→y=x):=by
 induction l with
 |nil=>intro y hy;simp [cut] at hy
 |cons x r ih=>
  have h1:=h x (iK ..);have hr:=fun y hy=>h y (fA _ hy)
  intro y hy;cases hx:C.is x
  ·rw [tZ hx] at hy
   rcases nY.1 hy with rfl|hy
   ·exact ⟨y,iK ..,(C.VO y).symm,h1,jI _,fun _=>rfl⟩
   ·obtain ⟨z,hz,h2⟩:=ih hr y hy;exact ⟨z,fA _ hz,h2⟩
  ·rw [uh hx] at hy
   rcases nY.1 hy with rfl|hy
   ·refine ⟨x,iK ..,?_,?_,?_,fun h=>by rw [hx] at h;cases h⟩
    ·rw [C.Dk]
    ·rw [C.Dk];unfold less;omega
    ·rw [C.Dk];unfold less;omega
   ·obtain ⟨z,hz,h2⟩:=ih hr y hy;exact ⟨z,fA _ hz,h2⟩
theorem Sr {l:List α} (h:∀ x∈l,0≤C.num x) {v:Int} (hv:v≤0):(C.cut l v).1=l:=by
 induction l with
 |nil=>rfl
 |cons x r ih=>
  have h1:=h x (iK ..);have hr:=fun y hy=>h y (fA _ hy)
  have h2:=CG hr v;have h3:=vN hr;cases hx:C.is x
  ·rw [tZ hx,ih hr]
  ·rw [uh hx,ih hr];simp only;have:less (C.cut r v).2 (C.num x)=0:=by unfold less;omega
   rw [this,yX,C.VO]
theorem jiR {l:List α} (h:∀ x∈l,0≤C.num x) (v:Int):(C.cut l v).1=(C.cut l (max v 0)).1:=by
 by_cases hv:v≤0
 ·rw [Sr h hv,Sr h (by omega)]
 ·rw [show max v 0=v by omega]
theorem MQ {l:List α} (h:∀ x∈l,0≤C.num x) {v:Int} (hv:C.all l≤v):(C.cut l v).1=l.map fun x=>if C.is x=true then C.put x 0 else x:=by
 induction l with
 |nil=>rfl
 |cons x r ih=>
  have h1:=h x (iK ..);have hr:=fun y hy=>h y (fA _ hy)
  have h2:=CG hr v;have h3:=vN hr;rw [all_cons] at hv
  unfold part at hv
  cases hx:C.is x
  ·rw [hx] at hv
   simp only [og,yN] at hv
   rw [tZ hx,ih hr (by omega),dP,hx]
   rfl
  ·rw [hx] at hv
   simp only [wJ] at hv
   rw [uh hx,ih hr (by omega),dP,hx]
   simp only [wJ];have:less (C.cut r v).2 (C.num x)=C.num x:=by unfold less;omega
   rw [this,Int.sub_self]
theorem rest_none {l:List α} (h:C.Pos l) {v:Int} (hv:v≤0):C.rest l v=l:=by
 unfold rest;rw [Sr (fun x hx=>by have:=h x hx;omega) hv]
 refine Ej.2 fun x hx=>?_
 have:=h x hx;unfold keep;simp
 omega
theorem Qs {l:List α} (h:C.Pos l) (v:Int):C.rest l v=C.rest l (max v 0):=by
 unfold rest;rw [jiR (fun x hx=>by have:=h x hx;omega)]
theorem He {l:List α} (h:C.Pos l) (v:Int):C.Pos (C.rest l v):=fun y hy=>by
 obtain ⟨h1,h2⟩:=qP.1 hy;obtain ⟨x,_,_,h3,_⟩:=jcY (fun x hx=>by have:=h x hx;omega) v y h1
 unfold keep at h2
 simp at h2
 omega
theorem all_filter (l:List α):C.all (l.filter C.keep)=C.all l:=by
 induction l with
 |nil=>rfl
 |cons x r ih=>
  rw [uI,all_cons];split
  ·rw [all_cons,ih]
  ·rename_i hk
   unfold keep at hk
   simp at hk
   rw [ih];unfold part;rw [hk];split<;>omega
theorem zn {l:List α} (h:C.Pos l) (v:Int):C.all (C.rest l v)=C.all l - min (max v 0) (C.all l):=by
 unfold rest;rw [all_filter,jiS (fun x hx=>by have:=h x hx;omega)]
theorem BN {l:List α} (h:C.Pos l) (v:Int):∀ y∈C.rest l v,∃ x∈l,y=C.put x (C.num y)∧1≤C.num y∧C.num y≤C.num x∧(C.is x=false→y=x):=fun y hy=>by
 have h0:=He h v y hy;obtain ⟨x,h1,h2,_,h4⟩:=jcY (fun x hx=>by have:=h x hx;omega) v y (qP.1 hy).1
 exact ⟨x,h1,h2,h0,h4⟩
theorem Uz {l:List α} (h:C.Pos l) {t:Int} (ht:0≤t) (hl:t+1≤C.all l):C.rest l (t+1)=C.dec (C.rest l t):=by
 induction l with
 |nil=>exact absurd hl (by show ¬ t+1≤0;omega)
 |cons x r ih=>
  obtain ⟨h1,hr⟩:=h.cons;have hr0:∀ y∈r,0≤C.num y:=fun y hy=>by have:=hr y hy;omega
  have a0:=CG hr0 t;have a1:=CG hr0 (t+1);have a2:=hr.nonneg;have hany:=Ph (He hr t);rw [zn hr] at hany
  rw [all_cons] at hl
  unfold part at hl
  unfold rest at ih hany ⊢
  by_cases hA:t+1≤C.all r
  ·have jcR:((C.cut r t).1.filter C.keep).any C.is=true:=by rw [hany];simp;omega
   have ih':=ih hr hA;have hkx:C.keep x=true:=by unfold keep;simp;omega
   cases hx:C.is x
   ·rw [tZ hx,tZ hx];simp only;rw [uH hkx,uH hkx,dec,ak jcR,ih']
   ·rw [uh hx,uh hx];simp only;have e0:less (C.cut r t).2 (C.num x)=0:=by unfold less;omega
    have e1:less (C.cut r (t+1)).2 (C.num x)=0:=by unfold less;omega
    rw [e0,e1,yX,C.VO,uH hkx,uH hkx,dec,ak jcR,ih']
  ·cases hx:C.is x
   ·rw [hx] at hl
    simp only [og,yN] at hl
    omega
   ·rw [hx] at hl
    simp only [wJ] at hl
    have jcR:((C.cut r t).1.filter C.keep).any C.is=false:=by rw [hany];simp;omega
    have e0:less (C.cut r t).2 (C.num x)=t - C.all r:=by unfold less;omega
    have e1:less (C.cut r (t+1)).2 (C.num x)=t+1 - C.all r:=by unfold less;omega
    have e2:(C.cut r (t+1)).1=(C.cut r t).1:=by rw [MQ hr0 (by omega),MQ hr0 (by omega)]
    rw [uh hx,uh hx];simp only;rw [e0,e1,e2];have hk0:C.keep (C.put x (C.num x - (t - C.all r)))=true:=by unfold keep;rw [C.Dk];simp;omega
    rw [uH hk0,dec,ah (by rw [jcR];simp),C.jfl,ak hx,C.Dk,C.jhQ]
    by_cases hz:C.num x - (t - C.all r)=1
    ·rw [ak hz,Bq (by unfold keep;rw [C.Dk];simp;omega)]
    ·rw [ah hz,uH (by unfold keep;rw [C.Dk];simp;omega)]
     congr 2
     omega
theorem jb0:∀ {l:List α} {k:Nat} (hk:k<l.length),C.is l[k]=true→(∀ j (hj:j<l.length),k<j→C.is l[j]=false)→C.dec l=if C.num l[k]=1 then l.eraseIdx k else l.set k (C.put l[k] (C.num l[k] - 1))
 |x::r,0,_,h1,h2=>by
  have hany:r.any C.is=false:=by
   rw [Em];intro y hy;obtain ⟨j,hj,rfl⟩:=cZ hy;have:=h2 (j+1) (by simpa using hj) (by omega)
   simp at this
   simp [this]
  simp only [XH] at h1 ⊢
  rw [dec,ah (by rw [hany];simp),ak h1]
  rfl
 |x::r,k+1,hk,h1,h2=>by
  have hk':k<r.length:=by simpa using hk
  simp only [Ll] at h1 ⊢
  have hany:r.any C.is=true:=uJ.2 ⟨r[k],eF hk',h1⟩;rw [dec,ak hany,jb0 hk' h1 (fun j hj hkj=>by have:=h2 (j+1) (by simpa using hj) (by omega);simpa using this)]
  split
  ·rfl
  ·rfl
end bI
def Ad (b g:Int):bI Move:=⟨fun x=>decide (x.src=b)&&decide (x.good=g),(·.n),fun x n=>{x with n:=n},fun _ _=>rfl,fun _ _=>rfl,fun _ _ _=>rfl,fun _=>rfl⟩
def oz (s:State) (b g:Int):bI Hold:=⟨fun x=>decide (x.bin=b)&&decide ((s.line x.order.toNat x.line.toNat).good=g),(·.n),fun x n=>{x with n:=n},fun _ _=>rfl,fun _ _=>rfl,fun _ _ _=>rfl,fun _=>rfl⟩
theorem LY {b g:Int} {x:Move}:(Ad b g).is x=true↔x.src=b∧x.good=g:=by simp [Ad]
theorem wB {s:State} {b g:Int} {x:Hold}:(oz s b g).is x=true↔x.bin=b∧(s.line x.order.toNat x.line.toNat).good=g:=by simp [oz]
theorem jhY (b g:Int) (x:Move):(Ad b g).part x=qB b g x:=by
 unfold bI.part qB;by_cases h:x.src=b∧x.good=g
 ·rw [ak h,ak (LY.2 h)];rfl
 ·rw [ah h,ah (fun hh=>h (LY.1 hh))]
theorem jis (s:State) (b g:Int) (x:Hold):(oz s b g).part x=mZ s b g x:=by
 unfold bI.part mZ;by_cases h:x.bin=b∧(s.line x.order.toNat x.line.toNat).good=g
 ·rw [ak h,ak (wB.2 h)];rfl
 ·rw [ah h,ah (fun hh=>h (wB.1 hh))]
theorem xY (b g:Int) (l:List Move):(Ad b g).all l=fJ l b g:=by
 unfold bI.all fJ;congr 1
 exact Ef fun x _=>jhY b g x
theorem jby (s:State) (b g:Int) (l:List Hold):(oz s b g).all l=(l.map (mZ s b g)).sum:=by
 unfold bI.all;congr 1
 exact Ef fun x _=>jis s b g x
namespace bI
variable {α β:Type} {C:bI α}
theorem jcZ (f:α→β) (hf:∀ x n,f (C.put x n)=f x) (l:List α) (v:Int):(C.cut l v).1.map f=l.map f:=by
 induction l with
 |nil=>rfl
 |cons x r ih=>
  cases hx:C.is x
  ·rw [tZ hx,dP,ih,dP]
  ·rw [uh hx,dP,ih,dP,hf]
theorem jiQ (F:α→Int) (hF:∀ x n,C.is x=true→F (C.put x n)=F x) (l:List α) (v:Int):((C.cut l v).1.map F).sum=(l.map F).sum:=by
 induction l with
 |nil=>rfl
 |cons x r ih=>
  cases hx:C.is x
  ·rw [tZ hx,dP,kE,ih,dP,kE]
  ·rw [uh hx,dP,kE,ih,dP,kE,hF x _ hx]
theorem Yi (F:α→Int) (hF:∀ x n,C.is x=true→F (C.put x n)=F x) (h0:∀ x,C.num x=0→F x=0) (l:List α) (v:Int):((C.rest l v).map F).sum=(l.map F).sum:=by
 rw [← jiQ F hF l v];unfold rest;generalize (C.cut l v).1=m;induction m with
 |nil=>rfl
 |cons x r ih=>
  rw [uI];split
  ·rw [dP,kE,ih,dP,kE]
  ·rename_i hk
   have:C.num x=0:=by unfold keep at hk;simpa using hk
   rw [ih,dP,kE,h0 x this];omega
theorem jaJ {l:List α} (h:C.Pos l) (v:Int) {x:α} (hx:x∈l) (hi:C.is x=false):x∈C.rest l v:=by
 have hn:=h x hx;refine qP.2 ⟨?_,by unfold keep;simp;omega⟩
 clear hn;induction l with
 |nil=>simp at hx
 |cons y r ih=>
  rcases nY.1 hx with rfl|hx
  ·rw [tZ hi];exact iK ..
  ·have:=ih h.cons.2 hx;cases hy:C.is y
   ·rw [tZ hy];exact fA _ this
   ·rw [uh hy];exact fA _ this
end bI
def oN (s:State) (b g v:Int):List Move:=(Ad b g).rest s.moves v
def iT (s:State) (b g v:Int):List Hold:=(oz s b g).rest s.holds (v - fJ s.moves b g)
def jD (s:State) (b g v:Int) (o k:Int):Int:=aF s.holds o k b - aF (iT s b g v) o k b
def ql (s:State) (b g v:Int):List Order:=s.orders.mapIdx fun o x=>{x with lines:=x.lines.mapIdx fun k y=>{y with back:=y.back+jD s b g v o k}}
def mV (s:State) (b g:Nat) (seen v:Int):State:=
 {on:=setCell s.on b g seen,orders:=ql s b g v,holds:=iT s b g v,moves:=oN s b g v,inn:=s.inn,out:=s.out,fixed:=s.fixed.set g (aC s.fixed g+seen - cell s.on b g)}
section
variable {p:Plan} {s:State} {b g:Nat} {seen v:Int}
theorem DR (hs:iI p s) (b g:Int):(Ad b g).Pos s.moves:=fun x hx=>by
 obtain ⟨i,hi,rfl⟩:=cZ hx;have:=hs.aB hi;rw [iM hi] at this
 exact this.2.2.2.2.1
theorem zJ (hs:iI p s) (b g:Int):(oz s b g).Pos s.holds:=fun x hx=>by
 have:=(gG.1 ((bC.1 hs.holds).1 x hx)).2.1;exact this
theorem CO (hs:iI p s) (b g v:Int):bQ (iT s b g v)=true:=by
 obtain ⟨h1,h2⟩:=bC.1 hs.holds;refine bC.2 ⟨fun y hy=>?_,?_⟩
 ·obtain ⟨x,hx,e,a,a',_⟩:=bI.BN (zJ hs b g) _ y hy;obtain ⟨c1,c2,c3⟩:=gG.1 (h1 x hx);change 1≤y.n at a
  change y.n≤x.n at a'
  rw [e];exact gG.2 ⟨c1,a,by show y.n≤200;omega⟩
 ·unfold iT bI.rest rises;refine LH _ ?_
  have e:=bI.jcZ (C:=oz s b g) place (fun _ _=>rfl) s.holds (v - fJ s.moves b g)
  have h3:(s.holds.map place).Pairwise (·<·):=Bg.2 h2
  rw [← e] at h3
  exact Bg.1 h3
theorem FP (hs:iI p s) (b g v:Int) (o k b':Int):aF (iT s b g v) o k b'≤aF s.holds o k b'∧(¬ (b'=b∧(s.line o.toNat k.toNat).good=g)→aF (iT s b g v) o k b'=aF s.holds o k b'):=by
 obtain ⟨h1,h2⟩:=bC.1 hs.holds;obtain ⟨h3,h4⟩:=bC.1 (CO hs b g v);have n1:=Ey hs.holds o k b';have n2:=Ey (CO hs b g v) o k b';have up:aF (iT s b g v) o k b'≠0→∃ x∈s.holds,x.order=o∧x.line=k∧x.bin=b'∧aF (iT s b g v) o k b'≤x.n∧(¬ (b'=b∧(s.line o.toNat k.toNat).good=g)→aF (iT s b g v) o k b'=x.n):=fun hn=>by
  obtain ⟨_,hm⟩:=sN h3 h4 hn;obtain ⟨x,hx,e,a,a',hnot⟩:=bI.BN (zJ hs b g) _ _ hm;have e':(⟨o,k,b',aF (iT s b g v) o k b'⟩:Hold)={x with n:=aF (iT s b g v) o k b'}:=e
  simp only [Hold.mk.injEq] at e'
  refine ⟨x,hx,e'.1.symm,e'.2.1.symm,e'.2.2.1.symm,a',fun hq=>?_⟩
  have hi:(oz s b g).is x=false:=by
   cases hi:(oz s b g).is x
   ·rfl
   ·have:=wB.1 hi;rw [← e'.1,← e'.2.1,← e'.2.2.1] at this
    exact absurd this hq
  have:=hnot hi;rw [← this]
 constructor
 ·by_cases hn:aF (iT s b g v) o k b'=0
  ·omega
  ·obtain ⟨x,hx,e1,e2,e3,hle,_⟩:=up hn;have:=sK h1 h2 hx;rw [e1,e2,e3] at this
   omega
 ·intro hq;by_cases hn:aF (iT s b g v) o k b'=0
  ·by_cases hm:aF s.holds o k b'=0
   ·omega
   ·obtain ⟨_,hmem⟩:=sN h1 h2 hm;have hi:(oz s b g).is ⟨o,k,b',aF s.holds o k b'⟩=false:=by
     cases hi:(oz s b g).is ⟨o,k,b',aF s.holds o k b'⟩
     ·rfl
     ·exact absurd (wB.1 hi) hq
    have:=bI.jaJ (zJ hs b g) (v - fJ s.moves b g) hmem hi;have:=sK h3 h4 this;simp only at this
    omega
  ·obtain ⟨x,hx,e1,e2,e3,_,he⟩:=up hn;have:=sK h1 h2 hx;rw [e1,e2,e3] at this
   rw [he hq,this]
theorem sU (hs:iI p s) (b:Nat) (g v:Int) (o k:Int):0≤jD s b g v o k∧jD s b g v o k≤aF s.holds o k b∧jD s b g v o k≤kept s.holds o k:=by
 have h1:=(FP hs b g v o k b).1;have h2:=Ey (CO hs b g v) o k b;have h3:=Dt hs.holds o k b;unfold jD;omega
theorem jb2 (hs:iI p s) {b:Nat} (hb:b<p.aH.length) (g v:Int) (o k:Int):kept (iT s b g v) o k=kept s.holds o k - jD s b g v o k:=by
 rw [yc hs.holds,yc (CO hs b g v)];have:=vP (f:=fun b=>aF s.holds o k b) (g:=fun b'=>aF (iT s b g v) o k b') (n:=6) (i:=b) (d:=- jD s b g v o k) (by have:=hs.counts;omega) (fun i _ hne=>(FP hs b g v o k i).2 (fun h=>hne (by omega))) (by
  show aF (iT s b g v) o k b=aF s.holds o k b+ -jD s b g v o k;unfold jD;omega)
 rw [this];omega
theorem Jk (o:Nat) (ho:o<s.orders.length):(mV s b g seen v).order o={s.order o with lines:=(s.order o).lines.mapIdx fun k y=>{y with back:=y.back+jD s b g v o k}}:=by
 unfold State.order ay mV ql;simp [List.getD,ho]
theorem kQ:(mV s b g seen v).orders.length=s.orders.length:=by simp [mV,ql]
theorem jG (o:Nat) (ho:o<s.orders.length):((mV s b g seen v).order o).lines.length=(s.order o).lines.length:=by rw [Jk o ho];simp
theorem EL (o:Nat) (ho:o<s.orders.length):((mV s b g seen v).order o).kind=(s.order o).kind:=by rw [Jk o ho]
theorem uQ {o k:Nat} (ho:o<s.orders.length) (hk:k<(s.order o).lines.length):(mV s b g seen v).line o k={s.line o k with back:=(s.line o k).back+jD s b g v o k}:=by
 unfold State.line;rw [Jk o ho,iZ (by simpa using hk),iZ hk]
 simp
theorem Sv (hs:iI p s) (b' g':Int):iO (mV s b g seen v) b' g'=((iT s b g v).map (mZ s b' g')).sum:=by
 unfold iO;congr 1
 apply Ef;intro x hx;obtain ⟨y,hy,e,_,_,_⟩:=bI.BN (zJ hs b g) _ x hx;have e':x={y with n:=x.n}:=e
 obtain ⟨i,hi,rfl⟩:=cZ hy;have h2:=hs.oP hi;rw [bV hi] at h2
 unfold mZ;rw [e'];simp only;rw [uQ (by omega) (by omega)]
theorem Iw (hs:iI p s) (hv:0≤v) (hv2:v≤bound s b g):bound (mV s b g seen v) b g=bound s b g - v:=by
 have h1:fJ (mV s b g seen v).moves b g=_:=(xY b g _).symm.trans (bI.zn (DR hs b g) v);rw [xY] at h1
 have h2:=Sv (b:=b) (g:=g) (seen:=seen) (v:=v) hs b g;have h3:=bI.zn (zJ hs b g) (v - fJ s.moves b g);rw [jby,jby] at h3
 change ((iT s b g v).map (mZ s b g)).sum=iO s b g - min (max (v - fJ s.moves b g) 0) (iO s b g) at h3
 rw [h3] at h2
 have h4:=oD hs b g;have h5:=tN hs b g s.holds.length;rw [yu] at h5
 unfold bound at hv2 ⊢
 rw [h1,h2];omega
theorem OM (hs:iI p s) {b' g':Int} (hne:¬ (b'=b∧g'=g)):bound (mV s b g seen v) b' g'=bound s b' g':=by
 have h1:fJ (mV s b g seen v).moves b' g'=fJ s.moves b' g':=bI.Yi (C:=Ad b g) (qB b' g') (fun x n hx=>by
  have:=LY.1 hx;unfold qB;rw [ah (by show ¬ (x.src=b'∧x.good=g');omega),ah (by omega)]) (fun x hx=>by
  have hx':x.n=0:=hx;unfold qB;rw [hx'];split<;>rfl) s.moves v
 have h2:=Sv (b:=b) (g:=g) (seen:=seen) (v:=v) hs b' g';have h3:((iT s b g v).map (mZ s b' g')).sum=iO s b' g':=bI.Yi (C:=oz s b g) (mZ s b' g') (fun x n hx=>by
  have:=wB.1 hx;unfold mZ;rw [ah (by show ¬ (x.bin=b'∧(s.line x.order.toNat x.line.toNat).good=g');omega),ah (by omega)]) (fun x hx=>by
  have hx':x.n=0:=hx;unfold mZ;rw [hx'];split<;>rfl) s.holds _
 unfold bound;rw [h1,h2,h3]
structure Counts (p:Plan) (s:State) (b g:Nat) (seen:Int):Prop where
 hb:b<p.aH.length
 hg:g<p.sizes.length
 s0:0≤seen
 s1:seen≤200
 f0: -1048576≤aC s.fixed g+seen - cell s.on b g
 f1:aC s.fixed g+seen - cell s.on b g≤1048576
def over (s:State) (b g:Nat) (seen:Int):Int:=max (bound s b g - seen) 0
theorem EM (hc:checkState p s=0) (f:Counts p s b g seen):checkState p (mV s b g seen (over s b g seen))=0:=by
 obtain ⟨h,DU⟩:=iE.1 hc;have hs:=h.sane;have hb0:=wG hs b g;have hs0:=f.s0;have hov:0≤over s b g seen∧over s b g seen≤bound s b g∧bound s b g - over s b g seen≤seen:=by unfold over;omega
 generalize over s b g seen=v at hov
 have hbl:b<s.on.length:=by rw [hs.ku];exact f.hb
 have hgl:g<(rowAt s.on b).length:=by rw [hs.rowLen f.hb];exact f.hg
 have hfl:g<s.fixed.length:=by rw [hs.fixed.1];exact f.hg
 refine iE.2 ⟨Right.of (iI.of ?_ (by rw [kQ];exact hs.jh) ?_ (fun o ho=>?_) (fun o k ho hk=>?_) (CO hs b g v) (fun x hx=>?_) (fun x hx=>?_)
  (aS.1 hs.form).2.2.2.2.1 (aS.1 hs.form).2.2.2.2.2.1 (E5 (aS.1 hs.form).2.2.2.2.2.2 hfl f.f0 f.f1)) (fun g' hg'=>?_) (fun b' g' hb' hg'=>?_) (fun o k ho hk=>?_),fun o ho=>?_⟩
 ·exact dM.2 ⟨hs.plan,E8 (dM.1 hs.shelf).2 ⟨f.s0,f.s1⟩ f.hb f.hg⟩
 ·refine bJ (bJ (yR _ _) ?_) hs.lJ
  rw [bI.KI];exact aA _
 ·rw [kQ] at ho
  rw [jG o ho,EL o ho];exact ⟨hs.jX ho,hs.kind ho⟩
 ·rw [kQ] at ho
  rw [jG o ho] at hk
  have hl:=hs.line ho hk;have h1:=(h.qI ho hk).1;have h2:=sU hs b g v o k;have h3:=(lK hs.holds o k).1;rw [uQ ho hk,jF];simp only;refine ⟨hl.1,hl.2.1,hl.2.2.1,?_⟩
  split at h1<;>omega
 ·obtain ⟨y,hy,e,_,_,_⟩:=bI.BN (zJ hs b g) _ x hx;have e':x={y with n:=x.n}:=e
  have h1:=ig.1 (bY.1 (aS.1 hs.form).2.2.1 y hy);obtain ⟨i,hi,rfl⟩:=cZ hy;have h2:=hs.oP hi;rw [bV hi] at h2
  rw [e'];exact ig.2 ⟨by rw [kQ];exact h1.1,by rw [jG _ (by show (s.holds[i]).order.toNat<_;omega)];exact h1.2.1,h1.2.2⟩
 ·obtain ⟨y,hy,e,a,a',_⟩:=bI.BN (DR hs b g) _ x hx;have e':x={y with n:=x.n}:=e
  have h1:=xZ.1 (bY.1 (aS.1 hs.form).2.2.2.1 y hy);change 1≤x.n at a
  change x.n≤y.n at a'
  rw [e'];exact xZ.2 ⟨h1.1,h1.2.1,h1.2.2.1,h1.2.2.2.1,a,by show x.n≤200;omega⟩
 ·have h1:=h.sum hg';have e1:sumOf (mV s b g seen v).on g'=_:=uM (n:=seen) hbl hgl g';have e2:aC (mV s b g seen v).fixed g'=if g'=g then aC s.fixed g+seen - cell s.on b g else aC s.fixed g':=AA hfl
  rw [e1,e2];show _=aC s.inn g' - aC s.out g'+_;split
  ·rename_i hq
   subst hq;omega
  ·omega
 ·have h1:=h.bnd hb' hg';have e1:cell (mV s b g seen v).on b' g'=if b'=b∧g'=g then seen else cell s.on b' g':=iQ hbl hgl
  rw [e1];by_cases hq:b'=b∧g'=g
  ·obtain ⟨rfl,rfl⟩:=hq;rw [ak ⟨rfl,rfl⟩,Iw hs hov.1 hov.2.1];exact hov.2.2
  ·rw [ah hq,OM hs (by omega)]
   exact h1
 ·rw [kQ] at ho
  rw [jG o ho] at hk
  obtain ⟨l1,l2⟩:=h.qI ho hk;have h2:=sU hs b g v o k;have h3:=(lK hs.holds o k).1;have hl:=hs.line ho hk;refine kP.2 ?_
  have e1:kept (mV s b g seen v).holds o k=kept s.holds o k - jD s b g v o k:=jb2 hs f.hb g v o k;rw [uQ ho hk,EL o ho,e1];simp only;refine ⟨?_,fun hh=>l2 ⟨hh.1,by omega⟩⟩
  split at l1<;>rename_i hz
  ·rw [ak hz];omega
  ·rw [ah hz];omega
 ·rw [kQ] at ho
  rw [EL o ho];rintro ⟨h1,h2⟩;refine DU o ho ⟨h1,oI.2 fun k hk=>?_⟩
  have h3:=oI.1 h2 k (by rw [jG o ho];exact hk)
  have h4:=uQ (b:=b) (g:=g) (seen:=seen) (v:=v) ho hk;unfold State.line at h4
  rw [h4] at h3
  exact h3
end
end Wh
