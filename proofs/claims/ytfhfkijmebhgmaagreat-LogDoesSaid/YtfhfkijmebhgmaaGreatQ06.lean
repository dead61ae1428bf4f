/- Texts of the claim, joined. -/
import Derived.Test.YtfhfkijmebhgmaaGreatQ05
set_option maxHeartbeats 20000000
set_option maxRecDepth 100000
namespace Wh
structure CY (p:Plan) (b:Nat) (S:Nat→Nat→Prop) (s t:State):Prop where
 right:Right p t
 on:t.on=s.on
 moves:t.moves=s.moves
 inn:t.inn=s.inn
 out:t.out=s.out
 fixed:t.fixed=s.fixed
 orders:t.orders.length=s.orders.length
 kind:∀ o,(t.order o).kind=(s.order o).kind
 lines:∀ o,(t.order o).lines.length=(s.order o).lines.length
 line:∀ o k,(t.line o k).good=(s.line o k).good∧(t.line o k).want=(s.line o k).want∧(t.line o k).got=(s.line o k).got
 bnd:∀ g:Int,bound t b g=bound s b g
 back:∀ o k,¬ S o k→(t.line o k).back=(s.line o k).back
namespace CY
variable {p:Plan} {b:Nat} {S S':Nat→Nat→Prop} {s t u:State}
theorem refl (h:Right p s):CY p b S s s:=⟨h,rfl,rfl,rfl,rfl,rfl,rfl,fun _=>rfl,fun _=>rfl,fun _ _=>⟨rfl,rfl,rfl⟩,fun _=>rfl,fun _ _ _=>rfl⟩
theorem mono (h:CY p b S s t) (hS:∀ o k,S o k→S' o k):CY p b S' s t:={h with back:=fun o k hn=>h.back o k fun hs=>hn (hS o k hs)}
theorem trans (h:CY p b S s t) (h':CY p b S' t u):CY p b (fun o k=>S o k∨S' o k) s u:=by
 refine ⟨h'.right,h'.on.trans h.on,h'.moves.trans h.moves,h'.inn.trans h.inn,h'.out.trans h.out,h'.fixed.trans h.fixed,h'.orders.trans h.orders,fun o=>(h'.kind o).trans (h.kind o),fun o=>(h'.lines o).trans (h.lines o),fun o k=>?_,fun g=>(h'.bnd g).trans (h.bnd g),fun o k hn=>?_⟩
 ·obtain ⟨a1,a2,a3⟩:=h.line o k;obtain ⟨b1,b2,b3⟩:=h'.line o k;exact ⟨b1.trans a1,b2.trans a2,b3.trans a3⟩
 ·exact (h'.back o k fun hs=>hn (.inr hs)).trans (h.back o k fun hs=>hn (.inl hs))
theorem one {o k:Nat} {n:Int} (h:Right p s) (hm:n=0∨May s o k n):CY p b (fun o' k'=>o'=o∧k'=k) s (ji p s o k n b).1:=by
 rcases hm with rfl|hm
 ·have:ji p s o k 0 b=(s,0):=Dc (by omega)
  rw [this];exact refl h
 ·obtain ⟨h1,_,_⟩:=JW (but:=b) h hm;exact ⟨h1.right,h1.on,h1.moves,h1.inn,h1.out,h1.fixed,h1.orders,h1.kind,h1.lines,h1.line,fun g=>jdb h hm g,fun o' k' hn=>by rw [h1.back,ah hn,yX]⟩
theorem may (h:CY p b S s t) {o k:Nat} {n:Int} (hn:¬ S o k) (hm:n=0∨May s o k n):n=0∨May t o k n:=by
 rcases hm with hm|hm
 ·exact .inl hm
 ·exact .inr ⟨by rw [h.orders];exact hm.ho,by rw [h.lines];exact hm.hk,by rw [h.kind];exact hm.kind,hm.n0,by rw [h.back o k hn];exact hm.back⟩
theorem check (h:CY p b S s t) (hs:checkState p s=0):checkState p t=0:=by
 refine iE.2 ⟨h.right,fun o ho=>?_⟩
 rw [h.orders] at ho
 have:=(iE.1 hs).2 o ho;rw [h.kind];rintro ⟨h1,h2⟩;refine this ⟨h1,oI.2 fun k hk=>?_⟩
 have h3:=oI.1 h2 k (by rw [h.lines];exact hk)
 have h4:=h.line o k;unfold State.line at h4
 rw [h4.2.1,h4.2.2] at h3
 exact h3
end CY
def oZ (p:Plan) (o:Nat) (b:Int) (n:Nat→Int):Nat→State→State
 |0,s=>s
 |k+1,s=>(ji p (oZ p o b n k s) o k (n k) b).1
def qM (p:Plan) (b:Int) (n:Nat→Nat→Int):Nat→State→State
 |0,s=>s
 |o+1,s=>oZ p o b (n o) ((qM p b n o s).order o).lines.length (qM p b n o s)
def zL (p:Plan) (s:State) (b g:Nat) (seen:Int):State:=
 qM p b (fun o k=>jD s b g (over s b g seen) o k) s.orders.length (mV s b g seen (over s b g seen))
def count (p:Plan) (s:State) (b g seen:Int):State×Int:=
 if checkState p s≠0 then (dJ,checkState p s)
 else if !(fD p b&&bU p g&&within seen 0 200) then (dJ,3)
 else if !(within (aC s.fixed g.toNat+seen - cell s.on b.toNat g.toNat) (-1048576) 1048576) then (dJ,2)
 else (zL p s b.toNat g.toNat seen,0)
section
variable {p:Plan} {s:State} {b g:Nat} {seen v:Int} {n:Nat→Nat→Int}
theorem CJ {o:Nat} {n:Nat→Int} (h:Right p s) (hn:∀ k,k<(s.order o).lines.length→n k=0∨May s o k (n k)):∀ m,m≤(s.order o).lines.length→CY p b (fun o' k'=>o'=o∧k'<m) s (oZ p o b n m s)
 |0,_=>CY.refl h
 |m+1,hm=>by
  have h1:=CJ h hn m (by omega)
  have h2:=CY.one (b:=b) h1.right (h1.may (by omega) (hn m (by omega)))
  exact (h1.trans h2).mono fun o' k' hs=>by omega
theorem uZ (h:Right p s) (hn:∀ o k,o<s.orders.length→k<(s.order o).lines.length→n o k=0∨May s o k (n o k)):∀ m,m≤s.orders.length→CY p b (fun o' _=>o'<m) s (qM p b n m s)
 |0,_=>CY.refl h
 |m+1,hm=>by
  have h1:=uZ h hn m (by omega)
  have h2:=CJ (b:=b) (o:=m) (n:=n m) h1.right (fun k hk=>h1.may (by omega) (hn m k (by omega) (by rw [← h1.lines];exact hk))) _ (aA _)
  exact (h1.trans h2).mono fun o' k' hs=>by omega
theorem Jj (h:Right p s) {o k:Nat} (ho:o<s.orders.length) (hk:k<(s.order o).lines.length):jD s b g v o k=0∨May (mV s b g seen v) o k (jD s b g v o k):=by
 have h1:=sU h.sane b g v o k;by_cases hz:jD s b g v o k=0
 ·exact .inl hz
 ·have h2:=h.qI ho hk;have h3:=h.sane.line ho hk;have h4:=h.sane.kind ho;have h5:(s.order o).kind≠0:=fun e=>by rw [ak e] at h2;omega
  have h6:(s.order o).kind≠2:=fun e=>h2.2 ⟨e,by omega⟩
  refine .inr ⟨by rw [kQ];exact ho,by rw [jG o ho];exact hk,by rw [EL o ho];omega,h1.1,?_⟩
  rw [uQ ho hk];simp only;omega
theorem FT (hc:checkState p s=0) (f:Counts p s b g seen):CY p b (fun o _=>o<s.orders.length) (mV s b g seen (over s b g seen)) (zL p s b g seen):=by
 have h:=cO hc;have hcut:=cO (EM hc f);exact uZ hcut (fun o k ho hk=>by
  rw [kQ] at ho
  rw [jG o ho] at hk
  exact Jj h ho hk) _ (by rw [kQ];exact aA _)
theorem ZU (hc:checkState p s=0) (f:Counts p s b g seen):checkState p (zL p s b g seen)=0:=(FT hc f).check (EM hc f)
theorem jd5 (hc:checkState p s=0) (f:Counts p s b g seen):(zL p s b g seen).orders.length=s.orders.length:=by rw [(FT hc f).orders,kQ]
theorem ZR (hc:checkState p s=0) (f:Counts p s b g seen) {o:Nat} (ho:o<s.orders.length):((zL p s b g seen).order o).lines.length=(s.order o).lines.length:=by rw [(FT hc f).lines,jG o ho]
theorem SA (hs:iI p s):iT s b g 0=s.holds:=bI.rest_none (zJ hs b g) (by have:=oD hs b g;omega)
theorem jb1 (hs:iI p s):oN s b g 0=s.moves:=bI.rest_none (DR hs b g) (by omega)
theorem U9 (hs:iI p s) (o k:Int):jD s b g 0 o k=0:=by
 unfold jD;rw [SA hs];omega
theorem Sz (hs:iI p s):ql s b g 0=s.orders:=by
 unfold ql;apply wM
 ·simp
 ·intro i h1 h2;rw [yS];have:((s.orders[i].lines.mapIdx fun k y=>{y with back:=y.back+jD s b g 0 i k}):List Line)=s.orders[i].lines:=by
   apply wM
   ·simp
   ·intro j h3 h4;rw [yS,U9 hs,mM]
  rw [this]
theorem Ot {b g:Int} (h:(count p s b g seen).2=0):checkState p s=0∧∃ i j:Nat,b=i∧g=j∧Counts p s i j seen∧(count p s b g seen).1=zL p s i j seen:=by
 unfold count at h ⊢
 by_cases h1:checkState p s=0
 ·rw [ah (fun hn=>hn h1)] at h ⊢
  by_cases h2:(fD p b&&bU p g&&within seen 0 200)=true
  ·rw [ah (by rw [h2];simp)] at h ⊢
   by_cases h3:within (aC s.fixed g.toNat+seen - cell s.on b.toNat g.toNat) (-1048576) 1048576=true
   ·rw [ah (by rw [h3];simp)]
    simp only [dL] at h2
    obtain ⟨i,rfl,hi⟩:=Xg h2.1.1;obtain ⟨j,rfl,hj⟩:=RF h2.1.2;have h4:=within_iff.1 h2.2;have h5:=within_iff.1 h3;simp only [eH] at h5 ⊢
    exact ⟨h1,i,j,rfl,rfl,⟨hi,hj,h4.1,h4.2,h5.1,h5.2⟩,rfl⟩
   ·rw [ak (by simpa using h3)] at h
    simp at h
  ·rw [yZ] at h2
   rw [h2,ak (by rfl)] at h
   simp at h
 ·rw [ak h1] at h
  exact absurd h h1
end
section
variable {p:Plan} {s:State} {b g n:Int}
theorem Ve (h:checkState p s≠0):count p s b g n=(dJ,checkState p s):=by unfold count;rw [ak h]
theorem count_range (h:checkState p s=0) (h2:(fD p b&&bU p g&&within n 0 200)=false):count p s b g n=(dJ,3):=by
 unfold count;rw [ah (fun hn=>hn h),h2]
 rfl
theorem KJ {i j:Nat} (h:checkState p s=0) (hi:i<p.aH.length) (hj:j<p.sizes.length) (hn:0≤n∧n≤200) (h2:aC s.fixed j+n - cell s.on i j< -1048576∨1048576<aC s.fixed j+n - cell s.on i j):count p s i j n=(dJ,2):=by
 have h3:(fD p (i:Int)&&bU p (j:Int)&&within n 0 200)=true:=by rw [oU.2 (by omega),lM.2 (by omega),within_iff.2 hn];rfl
 unfold count;rw [ah (fun hn=>hn h),h3,ah (by simp)]
 simp only [eH];rw [gY.2 h2];rfl
theorem ZQ {i j:Nat} (h:checkState p s=0) (f:Counts p s i j n):count p s i j n=(zL p s i j n,0):=by
 have h1:=f.hb;have h2:=f.hg;have h3:(fD p (i:Int)&&bU p (j:Int)&&within n 0 200)=true:=by rw [oU.2 (by omega),lM.2 (by omega),within_iff.2 ⟨f.s0,f.s1⟩];rfl
 unfold count;rw [ah (fun hn=>hn h),h3,ah (by simp)]
 simp only [eH];rw [within_iff.2 ⟨f.f0,f.f1⟩];rfl
end
namespace bI
variable {α:Type} (C:bI α)
def mid (l:List α) (v:Int) (j:Nat):List α×Int:=(l.take j++(C.cut (l.drop j) v).1,(C.cut (l.drop j) v).2)
variable {C}
theorem jcz (l:List α) (v:Int):C.mid l v l.length=(l,v):=by
 unfold mid;rw [Lu,jE];show (l++[],v)=_;rw [mJ]
theorem mid_zero (l:List α) (v:Int):C.mid l v 0=C.cut l v:=rfl
theorem Jc (l:List α) (v:Int) (j:Nat):(C.mid l v j).1.length=l.length:=by
 unfold mid;rw [dK,KI,dS,jT];omega
theorem Wi {l:List α} (v:Int) {i j:Nat} (hi:i<l.length) (hij:i<j):(C.mid l v j).1[i]?=some l[i]:=by
 unfold mid;rw [nZ (by rw [dS];omega),List.getElem?_take_of_lt hij,fF hi]
theorem jcA {l:List α} (v:Int) {j:Nat} (hj:j<l.length) (h:C.is l[j]=false):C.mid l v j=C.mid l v (j+1):=by
 unfold mid;rw [wO hj,tZ h,l9 hj,jo];rfl
theorem jfa {l:List α} (v:Int) {j:Nat} (hj:j<l.length) (h:C.is l[j]=true):
  C.mid l v j=((C.mid l v (j+1)).1.set j (C.put l[j] (C.num l[j] - less (C.mid l v (j+1)).2 (C.num l[j]))),(C.mid l v (j+1)).2 - less (C.mid l v (j+1)).2 (C.num l[j])):=by
 unfold mid;rw [wO hj,uh h,l9 hj,jo];have hl:(List.take j l).length≤j:=by rw [dS];omega
 have e:j - (List.take j l).length=0:=by rw [dS];omega
 rw [Bd _ _ hl,e];rfl
theorem jcB {β:Type} (f:α→β) (hf:∀ x n,f (C.put x n)=f x) (l:List α) (v:Int) (j:Nat):(C.mid l v j).1.map f=l.map f:=by
 unfold mid;rw [jl,jcZ f hf,← jl,Ba]
theorem QK {l:List α} (h:∀ x∈l,0≤C.num x) (v:Int) (j:Nat):min v 0≤(C.mid l v j).2∧(C.mid l v j).2≤v:=by
 have hd:∀ x∈l.drop j,0≤C.num x:=fun x hx=>h x (PG hx)
 have:=CG hd v;have h2:=vN hd;unfold mid;simp only;omega
end bI
def hkey (h:Hold):Int×Int×Int:=(h.order,h.line,h.bin)
theorem wZ (x:Hold) (r:List Hold) (o k b:Int):aF (x::r) o k b=if x.order=o∧x.line=k∧x.bin=b then x.n else aF r o k b:=by
 unfold aF;rw [PO]
 by_cases h:x.order=o∧x.line=k∧x.bin=b
 ·have e:sameKey o k b x=true:=by unfold sameKey;simp [h.1,h.2.1,h.2.2]
  rw [e,ak h]
 ·have e:sameKey o k b x=false:=by
   unfold sameKey;by_cases h1:x.order=o<;>by_cases h2:x.line=k<;>by_cases h3:x.bin=b<;>simp [h1,h2,h3]
   exact h ⟨h1,h2,h3⟩
  rw [e,ah h]
theorem tH:∀ {l:List Hold},(l.map hkey).Nodup→∀ {i:Nat} (hi:i<l.length),aF l l[i].order l[i].line l[i].bin=l[i].n
 |[],_,i,hi=>by simp at hi
 |x::r,hn,0,_=>by rw [wZ];simp
 |x::r,hn,i+1,hi=>by
  rw [dP,Gu] at hn
  have hi':i<r.length:=by simpa using hi
  rw [wZ,ah]
  ·exact tH hn.2 hi'
  ·rintro ⟨h1,h2,h3⟩;refine hn.1 (qO.2 ⟨r[i],eF hi',?_⟩)
   unfold hkey;simp only [Ll] at h1 h2 h3
   rw [h1,h2,h3]
theorem Ko {l:List Hold} {o k b:Int} (h:∀ x∈l,¬ (x.order=o∧x.line=k∧x.bin=b)):aF l o k b=0:=by
 induction l with
 |nil=>rfl
 |cons x r ih=>rw [wZ,ah (h x (iK ..)),ih fun y hy=>h y (fA _ hy)]
theorem YZ {l:List Hold} (hn:(l.map hkey).Nodup) (o k b:Int):aF (l.filter fun h=>!decide (h.n=0)) o k b=aF l o k b:=by
 induction l with
 |nil=>rfl
 |cons x r ih=>
  rw [dP,Gu] at hn
  rw [uI,wZ];by_cases h0:x.n=0
  ·rw [ah (by simp [h0]),ih hn.2]
   split
   ·rename_i h
    rw [h0];refine Ko fun y hy hh=>hn.1 (qO.2 ⟨y,hy,?_⟩)
    unfold hkey;rw [hh.1,hh.2.1,hh.2.2,h.1,h.2.1,h.2.2]
   ·rfl
  ·rw [ak (by simp [h0]),wZ,ih hn.2]
theorem YN {l:List Hold} {j:Nat} (hj:j<l.length) (y:Int):(l.set j {l[j] with n:=y}).map hkey=l.map hkey:=by
 rw [List.map_set];apply yV;intro i;rw [Eh]
 split
 ·rename_i h
  subst h;rw [ak (by simpa using hj),qc,fF hj]
  rfl
 ·rfl
theorem QV {l:List Hold} (hn:(l.map hkey).Nodup) {j:Nat} (hj:j<l.length) (y:Int) (o k b:Int):
  aF (l.set j {l[j] with n:=y}) o k b=if l[j].order=o∧l[j].line=k∧l[j].bin=b then y else aF l o k b:=by
 have hn':((l.set j {l[j] with n:=y}).map hkey).Nodup:=by rw [YN hj];exact hn
 have hlen:(l.set j {l[j] with n:=y}).length=l.length:=pY ..
 split
 ·rename_i h
  have:=tH hn' (i:=j) (by omega)
  rw [Gx] at this
  rw [← h.1,← h.2.1,← h.2.2];exact this
 ·rename_i h
  by_cases hx:∃ i,∃ hi:i<l.length,l[i].order=o∧l[i].line=k∧l[i].bin=b
  ·obtain ⟨i,hi,h1,h2,h3⟩:=hx;have hij:j≠i:=fun e=>by subst e;exact h ⟨h1,h2,h3⟩
   have e1:=tH hn hi;have e2:=tH hn' (i:=i) (by omega)
   rw [XG hij] at e2
   rw [h1,h2,h3] at e1 e2
   rw [e1,e2]
  ·have hnot:∀ x∈l,¬ (x.order=o∧x.line=k∧x.bin=b):=fun x hx' hh=>by
    obtain ⟨i,hi,rfl⟩:=cZ hx';exact hx ⟨i,hi,hh⟩
   rw [Ko hnot,Ko];intro x hx' hh;obtain ⟨i,hi,rfl⟩:=cZ hx';by_cases hij:j=i
   ·subst hij;rw [Gx] at hh
    exact h hh
   ·rw [XG hij] at hh
    exact hx ⟨i,by omega,hh⟩
theorem BU {l:List Hold} (h:bQ l=true):(l.map hkey).Nodup:=by
 have h2:=(bC.1 h).2;rw [List.Nodup,Bg];refine List.Pairwise.imp (fun {a b} hlt he=>?_) h2
 unfold hkey at he
 simp only [Ea] at he
 unfold place at hlt
 rw [he.1,he.2.1,he.2.2] at hlt
 omega
def hdO (s:State) (b:Int) (l:List Hold):List Order:=
 s.orders.mapIdx fun o x=>{x with lines:=x.lines.mapIdx fun k y=>{y with back:=y.back+(aF s.holds o k b - aF l o k b)}}
def Gg (s:State) (b:Int) (l:List Hold):State:={s with holds:=l,orders:=hdO s b l}
section
variable {s:State} {b:Int} {l:List Hold}
theorem WJ (o:Nat):(hdO s b l)[o]?=s.orders[o]?.map fun x=>{x with lines:=x.lines.mapIdx fun k y=>{y with back:=y.back+(aF s.holds o k b - aF l o k b)}}:=by
 unfold hdO;rw [Gz]
theorem MI:(hdO s b l).length=s.orders.length:=by simp [hdO]
theorem Nw {o:Nat} (ho:o<s.orders.length):(Gg s b l).order o={s.order o with lines:=(s.order o).lines.mapIdx fun k y=>{y with back:=y.back+(aF s.holds o k b - aF l o k b)}}:=by
 unfold State.order ay Gg;simp only [jm,WJ,fF ho]
 rfl
theorem Ny {o:Nat} (ho:o<s.orders.length):((Gg s b l).order o).lines.length=(s.order o).lines.length:=by rw [Nw ho];simp
theorem Zf {o k:Nat} (ho:o<s.orders.length) (hk:k<(s.order o).lines.length):(Gg s b l).line o k={s.line o k with back:=(s.line o k).back+(aF s.holds o k b - aF l o k b)}:=by
 unfold State.line;rw [Nw ho,iZ (by simpa using hk),iZ hk]
 simp
theorem jdJ {l':List Hold} (h:∀ o k:Nat,aF l' o k b=aF l o k b):hdO s b l'=hdO s b l:=by
 unfold hdO;simp only [h]
theorem jga:hdO s b s.holds=s.orders:=by
 have e:∀ x:List Line,(x.mapIdx fun _ y=>y)=x:=fun x=>by
  apply yV;intro i;simp
 have e2:∀ x:List Order,(x.mapIdx fun _ y=>y)=x:=fun x=>by
  apply yV;intro i;simp
 unfold hdO;simp only [Int.sub_self,mM,e,e2]
theorem jf9:Gg s b s.holds=s:=by unfold Gg;rw [jga]
theorem jf8 (hn:(l.map hkey).Nodup) {j:Nat} (hj:j<l.length) {o k:Nat} {m:Int} (h1:l[j].order=o) (h2:l[j].line=k) (h3:l[j].bin=b) (ho:o<s.orders.length) (hk:k<(s.order o).lines.length):
  Gg s b (l.set j {l[j] with n:=l[j].n - m})=({Gg s b l with holds:=l.set j {l[j] with n:=l[j].n - m}}:State).fG o k {(Gg s b l).line o k with back:=((Gg s b l).line o k).back+m}:=by
 have hka:=tH hn hj;rw [h1,h2,h3] at hka
 have hkey:∀ o' k':Nat,aF (l.set j {l[j] with n:=l[j].n - m}) o' k' b=aF l o' k' b - (if o'=o∧k'=k then m else 0):=fun o' k'=>by
  rw [QV hn hj,h1,h2,h3];by_cases h:o'=o∧k'=k
  ·obtain ⟨rfl,rfl⟩:=h;rw [ak ⟨rfl,rfl,rfl⟩,ak ⟨rfl,rfl⟩,hka]
  ·rw [ah (fun hh=>h ⟨by omega,by omega⟩),ah h]
   omega
 have hord:(({Gg s b l with holds:=l.set j {l[j] with n:=l[j].n - m}}:State)).order o=(Gg s b l).order o:=rfl
 unfold State.fG;rw [hord];unfold Gg;simp only [State.mk.injEq,nU,nV];apply yV;intro o';rw [WJ,Eh]
 by_cases he:o=o'
 ·subst he;rw [ak rfl,ak (by rw [MI];exact ho),fF ho]
  have e0:s.order o=s.orders[o]:=by unfold State.order;rw [kM ho]
  have e1:State.order {s with holds:=l,orders:=hdO s b l} o={s.order o with lines:=(s.order o).lines.mapIdx fun k y=>{y with back:=y.back+(aF s.holds o k b - aF l o k b)}}:=Nw ho
  have e2:State.line {s with holds:=l,orders:=hdO s b l} o k={s.line o k with back:=(s.line o k).back+(aF s.holds o k b - aF l o k b)}:=Zf ho hk
  rw [e1,e2];simp only [pq,AV,Order.mk.injEq];refine ⟨by rw [e0],?_⟩
  apply yV;intro k';rw [Gz,Eh,Gz,← e0]
  by_cases hke:k=k'
  ·subst hke;rw [ak rfl,ak (by simpa using hk),fF hk,hkey o k,ak ⟨rfl,rfl⟩]
   have:s.line o k=(s.order o).lines[k]:=by unfold State.line;rw [iZ hk]
   rw [this];simp only [pq,AV,Line.mk.injEq,nU];omega
  ·rw [ah hke];cases hq:(s.order o).lines[k']? with
   |none=>rfl
   |some y=>
    simp only [pq];rw [hkey o k',ah (fun h=>hke h.2.symm)]
    simp
 ·rw [ah he,WJ];cases hq:s.orders[o']? with
  |none=>rfl
  |some x=>
   simp only [pq,AV,Order.mk.injEq,nU];apply yV;intro k';rw [Gz,Gz]
   cases hq2:x.lines[k']? with
   |none=>rfl
   |some y=>
    simp only [pq];rw [hkey o' k',ah (fun h=>he h.1.symm)]
    simp
end
theorem jd2 {p:Plan} {s:State} {b g:Nat} {seen:Int} (hs:iI p s):
  let s1:State:={s with on:=setCell s.on b g seen,fixed:=s.fixed.set g (aC s.fixed g+seen - cell s.on b g),moves:=(Ad b g).rest s.moves (bound s b g - seen)}
  mV s b g seen (over s b g seen)=Gg s1 b ((oz s1 b g).rest s1.holds ((Ad b g).mid s.moves (bound s b g - seen) 0).2):=by
 intro s1;have hm:=DR hs b g;have hh:=zJ hs b g;have hC:oz s1 b g=oz s b g:=rfl;have h1:oN s b g (over s b g seen)=(Ad b g).rest s.moves (bound s b g - seen):=by
  unfold oN over;rw [bI.Qs hm (bound s b g - seen)]
 have hov:=bI.CG (fun x hx=>by have:=hm x hx;omega) (bound s b g - seen) (C:=Ad b g) (l:=s.moves)
 have h2:iT s b g (over s b g seen)=(oz s1 b g).rest s1.holds ((Ad b g).mid s.moves (bound s b g - seen) 0).2:=by
  rw [hC,bI.mid_zero,hov];unfold iT over;rw [← xY,bI.Qs hh,bI.Qs hh (bound s b g - seen - _)];congr 1
  have:=bI.vN (C:=Ad b g) (l:=s.moves) fun x hx=>by have:=hm x hx;omega
  omega
 unfold Gg mV;rw [← h2,h1];rfl
def JL (p:Plan) (b:Int) (n:Nat→Nat→Int):List Nat→State→State
 |[],s=>s
 |q::r,s=>JL p b n r (ji p s (q / 3) (q%3) (n (q / 3) (q%3)) b).1
section
variable {p:Plan} {b:Int} {n:Nat→Nat→Int}
theorem FQ (l r:List Nat) (s:State):JL p b n (l++r) s=JL p b n r (JL p b n l s):=by
 induction l generalizing s with
 |nil=>rfl
 |cons q l ih=>exact ih _
theorem Qj (s:State) (o k:Nat):(ji p s o k 0 b).1=s:=by
 have:ji p s o k 0 b=(s,0):=Dc (by omega)
 rw [this]
theorem Xb (f:Nat→Bool) (hf:∀ q,f q=false→n (q / 3) (q%3)=0) (l:List Nat) (s:State):JL p b n (l.filter f) s=JL p b n l s:=by
 induction l generalizing s with
 |nil=>rfl
 |cons q l ih=>
  cases h:f q
  ·rw [Bq (by simp [h]),ih]
   show _=JL p b n l (ji p s (q / 3) (q%3) (n (q / 3) (q%3)) b).1;rw [hf q h,Qj]
  ·rw [uH h];exact ih _
theorem ZN (o m:Nat) (hm:m≤3) (s:State):JL p b n ((List.range m).map fun k=>o*3+k) s=oZ p o b (n o) m s:=by
 induction m with
 |zero=>rfl
 |succ m ih=>
  rw [wL,jl,FQ,ih (by omega)]
  show (ji p (oZ p o b (n o) m s) ((o*3+m) / 3) ((o*3+m)%3) (n ((o*3+m) / 3) ((o*3+m)%3)) b).1=(ji p (oZ p o b (n o) m s) o m (n o m) b).1;rw [show (o*3+m) / 3=o by omega,show (o*3+m)%3=m by omega]
theorem Yr (m:Nat):List.range ((m+1)*3)=List.range (m*3)++(List.range 3).map fun k=>m*3+k:=by
 have h:(m+1)*3=m*3+3:=by omega
 rw [h,List.range_add]
theorem Iy {o m:Nat} {f:Nat→Int} {s:State}:∀ d,(∀ k,m≤k→f k=0)→oZ p o b f (m+d) s=oZ p o b f m s
 |0,_=>rfl
 |d+1,h=>by
  show (ji p (oZ p o b f (m+d) s) o (m+d) (f (m+d)) b).1=_;rw [h (m+d) (by omega),Qj,Iy d h]
theorem Va {s:State} (hl:∀ o,o<s.orders.length→(s.order o).lines.length≤3) (hz:∀ o k,(s.order o).lines.length≤k→n o k=0) (hlen:∀ m o,m≤s.orders.length→((qM p b n m s).order o).lines.length=(s.order o).lines.length):
  ∀ m,m≤s.orders.length→JL p b n (List.range (m*3)) s=qM p b n m s
 |0,_=>rfl
 |m+1,hm=>by
  rw [Yr,FQ,Va hl hz hlen m (by omega),ZN m 3 (aA _)]
  show _=oZ p m b (n m) ((qM p b n m s).order m).lines.length (qM p b n m s);rw [hlen m m (by omega)]
  obtain ⟨d,hd⟩:∃ d,3=(s.order m).lines.length+d:=⟨3 - (s.order m).lines.length,by have:=hl m (by omega);omega⟩
  rw [hd,Iy d fun k hk=>hz m k hk]
end
def act (p:Plan) (s:State) (x:qo):State×Int:=
 if x.kind=1 then receive p s x.a x.b x.n
 else if x.kind=2 then enter p s x.lines
 else if x.kind=3 then release p s
 else if x.kind=4 then cancel p s x.a
 else if x.kind=5 then pick p s x.a x.b x.c x.n
 else if x.kind=6 then fill p s
 else if x.kind=7 then moved p s x.a x.n
 else if x.kind=8 then count p s x.a x.b x.n
 else (dJ,8)
def qY (s:State) (g:Int):Int:=QE (Zw s g) s s.orders.length 0
theorem QD {F G:Nat→Nat→Int} {s t:State} {n:Nat} (hl:∀ o,o<n→(t.order o).lines.length=(s.order o).lines.length) (hF:∀ o k,o<n→k<(s.order o).lines.length→G o k=F o k):QE G t n 0=QE F s n 0:=by
 unfold QE;congr 1
 refine sumTo_congr fun o ho=>?_
 rw [hl o ho];exact sumTo_congr fun k hk=>hF o k ho hk
theorem yx {s t:State} (h:t.orders.length=s.orders.length) (hl:∀ o,o<s.orders.length→(t.order o).lines.length=(s.order o).lines.length)
  (hg:∀ o k,o<s.orders.length→k<(s.order o).lines.length→(t.line o k).good=(s.line o k).good∧(t.line o k).got=(s.line o k).got) (g:Int):qY t g=qY s g:=by
 unfold qY;rw [h];refine QD hl fun o k ho hk=>?_
 obtain ⟨h1,h2⟩:=hg o k ho hk;unfold Zw;rw [h1,h2]
theorem je5 {F G:Nat→Nat→Int} {s t:State} {n i j:Nat} {d:Int} (hl:∀ o,o<n→(t.order o).lines.length=(s.order o).lines.length) (hi:i<n) (hj:j<(s.order i).lines.length)
  (hF:∀ o k,o<n→k<(s.order o).lines.length→¬ (o=i∧k=j)→G o k=F o k) (hd:G i j=F i j+d):QE G t n 0=QE F s n 0+d:=by
 have:=vP (f:=fun o=>sumTo (F o) (s.order o).lines.length) (g:=fun o=>sumTo (G o) (t.order o).lines.length) (n:=n) (i:=i) (d:=d) hi (fun o ho hne=>by
  show sumTo (G o) (t.order o).lines.length=sumTo (F o) (s.order o).lines.length;rw [hl o ho];exact sumTo_congr fun k hk=>hF o k ho hk (fun h=>hne h.1)) (by
  show sumTo (G i) (t.order i).lines.length=sumTo (F i) (s.order i).lines.length+d;rw [hl i hi];exact vP hj (fun k hk hne=>hF i k hi hk (fun h=>hne h.2)) hd)
 unfold QE;rw [this];show _+0=_+0+d;omega
structure Kept (p:Plan) (s t:State):Prop where
 check:checkState p t=0
 went:∀ g,g<p.sizes.length→aC t.out g - aC s.out g=qY t g - qY s g∧qY s g≤qY t g
section
variable {p:Plan} {s:State}
theorem VJ {b g n:Int} (h:(receive p s b g n).2=0):Kept p s (receive p s b g n).1:=by
 refine ⟨(VI h).1,fun k hk=>?_⟩
 obtain ⟨_,_,_,_,_,_,_,e⟩:=DL h;rw [e];have:qY {s with on:=setCell s.on b.toNat g.toNat (cell s.on b.toNat g.toNat+n),inn:=s.inn.set g.toNat (aC s.inn g.toNat+n)} k=qY s k:=yx rfl (fun _ _=>rfl) (fun _ _ _ _=>⟨rfl,rfl⟩) k
 rw [this];exact ⟨by show aC s.out k - aC s.out k=_;omega,jI _⟩
theorem jbY {l:List Line} (h:(enter p s l).2=0):Kept p s (enter p s l).1:=by
 refine ⟨(jbX h).1,fun g hg=>?_⟩
 obtain ⟨_,_,_,hl,e⟩:=Iq h;rw [e];have hor:∀ o,o<s.orders.length→({s with orders:=s.orders++[⟨0,l⟩]}:State).order o=s.order o:=fun o ho=>by
  unfold State.order ay;simp [ho,nZ]
 have hnew:({s with orders:=s.orders++[⟨0,l⟩]}:State).order s.orders.length=⟨0,l⟩:=by
  unfold State.order ay;simp
 have e1:qY {s with orders:=s.orders++[⟨0,l⟩]} g=qY s g:=by
  unfold qY;have hlen:({s with orders:=s.orders++[⟨0,l⟩]}:State).orders.length=s.orders.length+1:=by simp
  rw [hlen,jaY];have e2:=QD (F:=Zw s g) (G:=Zw {s with orders:=s.orders++[⟨0,l⟩]} g) (s:=s) (t:={s with orders:=s.orders++[⟨0,l⟩]}) (n:=s.orders.length) (fun o ho=>by rw [hor o ho]) (fun o k ho hk=>by
   unfold Zw State.line;rw [hor o ho])
  rw [← e2];unfold QE;congr 1
  refine Qo fun k hk=>?_
  rw [hnew] at hk
  unfold Zw State.line;rw [hnew];have:=(hl (bH l k) (by rw [iZ hk];exact eF hk)).2.1
  simp only;rw [this];split<;>rfl
 rw [e1];exact ⟨by show aC s.out g - aC s.out g=_;omega,jI _⟩
theorem VH (h:(release p s).2=0):Kept p s (release p s).1:=by
 obtain ⟨hc,e⟩:=Jz h;rw [e];have ht:=yG hc;refine ⟨TF hc,fun g hg=>?_⟩
 have:qY (uN p s) g=qY s g:=yx (Ym hc) (fun o ho=>TD hc ho) (fun o k ho hk=>by
  obtain ⟨a1,_,a3⟩:=ht.line o k;rw [a1,a3,yA s ho hk];split<;>exact ⟨rfl,rfl⟩) g
 rw [this,ht.out];exact ⟨by show aC s.out g - aC s.out g=_;omega,jI _⟩
theorem Xd {o:Int} (h:(cancel p s o).2=0):Kept p s (cancel p s o).1:=by
 obtain ⟨hc,i,rfl,hi,_,e⟩:=MW h;rw [e];refine ⟨Xe hc hi,fun g hg=>?_⟩
 have:qY (nO s i) g=qY s g:=yx (vK s i) (fun o _=>xB hi o) (fun o k ho hk=>by
  rw [DI hi hk];split<;>exact ⟨rfl,rfl⟩) g
 rw [this];exact ⟨by show aC s.out g - aC s.out g=_;omega,jI _⟩
theorem jaW {o k b n:Int} (h:(pick p s o k b n).2=0):Kept p s (pick p s o k b n).1:=by
 obtain ⟨hc,i,j,c,rfl,rfl,rfl,f,e⟩:=QB h;rw [e];obtain ⟨h1,h2,h3,h4,h5,_⟩:=Fh hc f;have hr:=cO hc;have hn0:=f.n0;refine ⟨h1,fun g hg=>?_⟩
 obtain ⟨eg,hgl⟩:=JZ hr f;obtain ⟨ht,_,_⟩:=BP hr f;have hgood:((qx p s i j c n).line i j).good=(s.line i j).good:=(Yz hc f).2.2.1;have hout:aC (qx p s i j c n).out g=aC s.out g+if g=(s.line i j).good.toNat then n else 0:=by
  rw [BQ,(vG _ i).2.2.2.2.1,ht.out];show aC (s.out.set _ _) g=_;rw [AA (by rw [hr.sane.out.1];exact hgl)]
  split
  ·rename_i e;rw [e]
  ·omega
 have DU:qY (qx p s i j c n) g=qY s g+if g=(s.line i j).good.toNat then n else 0:=by
  unfold qY;rw [h2];refine je5 (i:=i) (j:=j) (fun o _=>h3 o) f.ho f.hk (fun o' k' _ _ hne=>?_) ?_
  ·unfold Zw;rw [(h4 o' k' hne).2]
  ·unfold Zw;rw [hgood,h5];by_cases hq:g=(s.line i j).good.toNat
   ·rw [ak hq,ak (by omega),ak (by omega)]
   ·rw [ah hq,ah (by omega),ah (by omega)]
    rfl
 rw [hout,DU];constructor
 ·omega
 ·split<;>omega
theorem jbU (h:(fill p s).2=0):Kept p s (fill p s).1:=by
 obtain ⟨hc,e⟩:=RQ h;rw [e];have hf:=WX hc;refine ⟨WW hf,fun g hg=>?_⟩
 have e1:=hf.rest;have:qY (Io p s) g=qY s g:=by rw [e1];exact yx rfl (fun _ _=>rfl) (fun _ _ _ _=>⟨rfl,rfl⟩) g
 rw [this];have e2:(Io p s).out=s.out:=by rw [e1]
 rw [e2];exact ⟨by omega,jI _⟩
theorem YJ {k n:Int} (h:(moved p s k n).2=0):Kept p s (moved p s k n).1:=by
 obtain ⟨hc,i,rfl,f,e⟩:=N7 h;rw [e];refine ⟨YK hc f,fun g hg=>?_⟩
 have:qY (qH s i n) g=qY s g:=yx rfl (fun _ _=>rfl) (fun _ _ _ _=>⟨rfl,rfl⟩) g
 rw [this];exact ⟨by show aC s.out g - aC s.out g=_;omega,jI _⟩
theorem ZT {b g n:Int} (h:(count p s b g n).2=0):Kept p s (count p s b g n).1:=by
 obtain ⟨hc,i,j,rfl,rfl,f,e⟩:=Ot h;rw [e];have ht:=FT hc f;refine ⟨ZU hc f,fun k hk=>?_⟩
 have:qY (zL p s i j n) k=qY s k:=yx (jd5 hc f) (fun o ho=>ZR hc f ho) (fun o k ho hk=>by
  obtain ⟨a1,_,a3⟩:=ht.line o k;rw [a1,a3,uQ ho hk];exact ⟨rfl,rfl⟩) k
 rw [this,ht.out];exact ⟨by show aC s.out k - aC s.out k=_;omega,jI _⟩
theorem jad {x:qo} (h:(act p s x).2=0):checkState p s=0∧Kept p s (act p s x).1:=by
 unfold act at h ⊢
 split at h
 ·rename_i hk;rw [ak hk];exact ⟨(DL h).1,VJ h⟩
 rename_i h1;rw [ah h1]
 split at h
 ·rename_i hk;rw [ak hk];exact ⟨(Iq h).1,jbY h⟩
 rename_i h2;rw [ah h2]
 split at h
 ·rename_i hk;rw [ak hk];exact ⟨(Jz h).1,VH h⟩
 rename_i h3;rw [ah h3]
 split at h
 ·rename_i hk;rw [ak hk];exact ⟨(MW h).1,Xd h⟩
 rename_i h4;rw [ah h4]
 split at h
 ·rename_i hk;rw [ak hk];exact ⟨(QB h).1,jaW h⟩
 rename_i h5;rw [ah h5]
 split at h
 ·rename_i hk;rw [ak hk];exact ⟨(RQ h).1,jbU h⟩
 rename_i h6;rw [ah h6]
 split at h
 ·rename_i hk;rw [ak hk];exact ⟨(N7 h).1,YJ h⟩
 rename_i h7;rw [ah h7]
 split at h
 ·rename_i hk;rw [ak hk];exact ⟨(Ot h).1,ZT h⟩
 simp at h
end
def byteAt (t:List Nat) (i:Nat):Nat:=t.getD i 0
def nM (t:List Nat):Nat→List Line
 |0=>[]
 |m+1=>⟨byteAt t 0,byteAt t 1,byteAt t 2,byteAt t 3⟩::nM (t.drop 4) m
def kS (t:List Nat):Nat:=if t.length<6 then 0 else if 3<byteAt t 5∨t.length<6+4*byteAt t 5 then 0 else 6+4*byteAt t 5
def yL (t:List Nat):qo:=⟨byteAt t 0,byteAt t 1,byteAt t 2,byteAt t 3,byteAt t 4,nM (t.drop 6) (byteAt t 5)⟩
def replay:Nat→List Nat→List qo×Nat
 |0,_=>([],0)
 |n+1,t=>if kS t=0 then ([],0) else (yL t::(replay n (t.drop (kS t))).1,kS t+(replay n (t.drop (kS t))).2)
def mX (t:List Nat):List qo×Int×Int:=if 4096<t.length then ([],0,2) else ((replay 60 t).1,(replay 60 t).2,0)
def isByte (n:Int):Bool:=within n 0 255
def BZ (x:Line):Bool:=isByte x.good&&isByte x.want&&isByte x.got&&isByte x.back
def Jf (x:Line):List Nat:=[x.good.toNat,x.want.toNat,x.got.toNat,x.back.toNat]
def IQ (x:qo):List Nat:=[x.kind.toNat,x.a.toNat,x.b.toNat,x.c.toNat,x.n.toNat,x.lines.length]++x.lines.flatMap Jf
def FX (x:qo):Bool:=isByte x.kind&&isByte x.a&&isByte x.b&&isByte x.c&&isByte x.n&&x.lines.all BZ
def BD (x:qo):List Nat×Int:=if !(FX x) then ([],3) else if 3<x.lines.length then ([],2) else (IQ x,0)
def qL (p:Plan):List qo→State→State
 |[],s=>s
 |x::l,s=>qL p l (if (act p s x).2=0 then (act p s x).1 else s)
def rY (p:Plan) (t:List Nat):State×Int×Int:=
 if bK p≠0 then (dJ,0,bK p) else if (mX t).2.2≠0 then (dJ,0,(mX t).2.2) else (qL p (mX t).1 (begin p),((mX t).1.length:Int),0)
theorem Vr (t:List Nat):kS t≤t.length:=by
 unfold kS;split
 ·omega
 ·split<;>omega
theorem jcd {t:List Nat} (h:kS t≠0):6≤kS t∧kS t=6+4*byteAt t 5∧byteAt t 5≤3:=by
 unfold kS at h ⊢
 split at h
 ·exact absurd rfl h
 ·rename_i h1
  rw [ah h1];split at h
  ·exact absurd rfl h
  ·rename_i h2
   rw [ah h2];omega
theorem Qu:∀ (n:Nat) (t:List Nat),(replay n t).1.length≤n∧(replay n t).2≤t.length
 |0,t=>⟨aA _,aT _⟩
 |n+1,t=>by
  rw [replay];split
  ·exact ⟨aT _,aT _⟩
  ·have h1:=Qu n (t.drop (kS t));have h2:=Vr t;rw [jT] at h1
   simp only [gQ];omega
theorem Fv {n:Int}:isByte n=true↔0≤n∧n≤255:=within_iff
def ok (x:qo):Prop:=FX x=true∧x.lines.length≤3
def whole:List qo→Nat→Nat
 |[],_=>0
 |x::l,k=>if (IQ x).length≤k then whole l (k - (IQ x).length)+1 else 0
theorem JK (p:Plan):∀ (l m:List qo) (s:State),qL p (l++m) s=qL p m (qL p l s)
 |[],_,_=>rfl
 |x::l,m,s=>by
  rw [qg,qL,qL,JK p l m]
theorem MP {p:Plan}:∀ {l:List qo} {s:State},checkState p s=0→checkState p (qL p l s)=0
 |[],_,h=>h
 |x::l,s,h=>by
  rw [qL];refine MP ?_
  split
  ·rename_i h1
   exact (jad h1).2.check
  ·exact h
section
variable {p:Plan} {s:State} {b g:Nat} {seen t:Int}
theorem Oq (hs:iI p s) (ht:t≤fJ s.moves b g):iT s b g t=s.holds:=bI.rest_none (zJ hs b g) (by omega)
theorem OO {t':Int} (h:∀ o k:Int,jD s b g t' o k=jD s b g t o k):ql s b g t'=ql s b g t:=by
 unfold ql;simp only [h]
theorem jcy {l:List Move} (h:∀ x∈l,¬ (x.src=(b:Int)∧x.good=(g:Int))):fJ l b g=0:=by
 unfold fJ;induction l with
 |nil=>rfl
 |cons x r ih=>
  rw [dP,kE,ih fun y hy=>h y (fA _ hy)]
  unfold qB;rw [ah (h x (iK ..))];rfl
theorem jaT (hs:iI p s) (ht:0≤t) {k:Nat} (hk:k<(oN s b g t).length) (h1:(aB (oN s b g t) k).src=b∧(aB (oN s b g t) k).good=g) (h2:∀ j,k<j→j<(oN s b g t).length→¬ ((aB (oN s b g t) j).src=b∧(aB (oN s b g t) j).good=g)):
  mV s b g seen (t+1)={mV s b g seen t with moves:=if (aB (oN s b g t) k).n=1 then (oN s b g t).eraseIdx k else (oN s b g t).set k {aB (oN s b g t) k with n:=(aB (oN s b g t) k).n - 1}}∧(∀ o k:Int,jD s b g (t+1) o k=jD s b g t o k):=by
 have hp:=DR hs b g;have hall:=bI.zn hp t;have hpos:0<(Ad b g).all (oN s b g t):=by
  have:=bI.Ph (bI.He hp t);have hany:((Ad b g).rest s.moves t).any (Ad b g).is=true:=uJ.2 ⟨(oN s b g t)[k],eF hk,by rw [LY,← iM hk];exact h1⟩
  rw [hany] at this
  exact uy this.symm
 change (Ad b g).all (oN s b g t)=_ at hall
 rw [xY] at hall
 rw [xY] at hpos
 have hm:=oD hs b g;have hlt:t+1≤fJ s.moves b g:=by rw [xY] at hall;omega
 have e1:oN s b g (t+1)=(Ad b g).dec (oN s b g t):=bI.Uz hp ht (by rw [xY];exact hlt)
 have e2:=bI.jb0 (C:=Ad b g) hk (by rw [LY,← iM hk];exact h1) (fun j hj hkj=>by
  cases hi:(Ad b g).is (oN s b g t)[j]
  ·rfl
  ·rw [LY,← iM hj] at hi
   exact absurd hi (h2 j hkj hj))
 rw [← iM hk] at e2
 have e3:iT s b g (t+1)=iT s b g t:=by rw [Oq hs hlt,Oq hs (by omega)]
 have e4:∀ o k:Int,jD s b g (t+1) o k=jD s b g t o k:=fun o k=>by unfold jD;rw [e3]
 refine ⟨?_,e4⟩
 refine State.ext' rfl (OO e4) e3 ?_ rfl rfl rfl
 show oN s b g (t+1)=_;rw [e1,e2];rfl
theorem Y0 {l:List Hold} (hl:bQ l=true) {k:Nat} (hk:k<l.length):aF l (hold l k).order (hold l k).line (hold l k).bin=(hold l k).n:=by
 obtain ⟨h1,h2⟩:=bC.1 hl;rw [bV hk];exact sK h1 h2 (eF hk)
theorem jhw {l:List Hold} (hl:bQ l=true) {k:Nat} (hk:k<l.length) (m:Int):dA l {hold l k with n:=m}=if m=0 then l.eraseIdx k else l.set k {hold l k with n:=m}:=by
 have hp:pos l (hold l k)=k:=pos_eq (nD hk) (fun i hi=>YG hl hi hk) (fun _=>Int.le_of_eq (zo.2 ⟨rfl,rfl,rfl⟩).symm)
 have hf:found l (hold l k)=true:=oV.2 ⟨by rw [hp];exact hk,by rw [hp];exact zo.2 ⟨rfl,rfl,rfl⟩⟩
 have hkey:=zH hl hk;split
 ·rename_i h0
  rw [Uj hl (h:={hold l k with n:=m}) hkey h0 (by rw [WU];exact hf),je3,hp]
 ·rename_i h0
  rw [Ui hl (h:={hold l k with n:=m}) hkey h0 (by rw [WU];exact hf),je3,hp]
theorem jaU (hs:iI p s) (ht:0≤t) (h0:∀ x∈oN s b g t,¬ (x.src=(b:Int)∧x.good=(g:Int))) {k:Nat} (hk:k<(iT s b g t).length)
  (h1:(oz s b g).is (hold (iT s b g t) k)=true) (h2:∀ j,k<j→j<(iT s b g t).length→(oz s b g).is (hold (iT s b g t) j)=false) {i j:Nat} (hi:(hold (iT s b g t) k).order=i) (hj:(hold (iT s b g t) k).line=j) (hio:i<s.orders.length) (hjl:j<(s.order i).lines.length):
  mV s b g seen (t+1)=({mV s b g seen t with holds:=dA (iT s b g t) {hold (iT s b g t) k with n:=(hold (iT s b g t) k).n - 1}}:State).fG i j {(mV s b g seen t).line i j with back:=((mV s b g seen t).line i j).back+1}∧
  ∀ o k:Nat,jD s b g (t+1) o k=jD s b g t o k+if o=i∧k=j then 1 else 0:=by
 have hok:=CO hs b g t;have Zc:=bI.zn (DR hs b g) t;change (Ad b g).all (oN s b g t)=_ at Zc
 rw [xY,xY,jcy h0] at Zc
 have hm:=oD hs b g;have hge:fJ s.moves b g≤t:=by omega
 have hp:=zJ hs b g;have hall:=bI.zn hp (t - fJ s.moves b g);have hpos:0<(oz s b g).all (iT s b g t):=by
  have:=bI.Ph (bI.He hp (t - fJ s.moves b g));have hany:((oz s b g).rest s.holds (t - fJ s.moves b g)).any (oz s b g).is=true:=uJ.2 ⟨(iT s b g t)[k],eF hk,by rw [← bV hk];exact h1⟩
  rw [hany] at this
  exact uy this.symm
 change (oz s b g).all (iT s b g t)=_ at hall
 have e0:t+1 - fJ s.moves b g=(t - fJ s.moves b g)+1:=by omega
 have e1:iT s b g (t+1)=(oz s b g).dec (iT s b g t):=by
  show (oz s b g).rest s.holds (t+1 - fJ s.moves b g)=_;rw [e0];exact bI.Uz hp (by omega) (by omega)
 have e2:=bI.jb0 (C:=oz s b g) hk (by rw [← bV hk];exact h1) (fun j hj hkj=>by rw [← bV hj];exact h2 j hkj hj)
 rw [← bV hk] at e2
 have e3:iT s b g (t+1)=dA (iT s b g t) {hold (iT s b g t) k with n:=(hold (iT s b g t) k).n - 1}:=by
  rw [e1,e2,jhw hok hk];show (if (hold (iT s b g t) k).n=1 then _ else _)=_
  by_cases hz:(hold (iT s b g t) k).n=1
  ·rw [ak hz,ak (by omega)]
  ·rw [ah hz,ah (by omega)]
   rfl
 have e4:oN s b g (t+1)=oN s b g t:=by
  show ((Ad b g).cut s.moves (t+1)).1.filter _=((Ad b g).cut s.moves t).1.filter _;rw [bI.MQ (fun x hx=>by have:=DR hs b g x hx;omega) (by rw [xY];omega),bI.MQ (fun x hx=>by have:=DR hs b g x hx;omega) (by rw [xY];omega)]
 have hkey:=zH hok hk;have Zl:=(wB.1 h1).1;have hn:=jdn hok hk;have e5:∀ o k':Nat,jD s b g (t+1) o k'=jD s b g t o k'+if o=i∧k'=j then 1 else 0:=fun o k'=>by
  unfold jD;rw [e3,wz (h:={hold (iT s b g t) k with n:=(hold (iT s b g t) k).n - 1}) hok hkey (by simp only;omega)]
  have hkh:=Y0 hok hk;simp only;rw [hi,hj,Zl] at hkh ⊢
  by_cases hq:o=i∧k'=j
  ·obtain ⟨rfl,rfl⟩:=hq;rw [ak ⟨rfl,rfl,rfl⟩,ak ⟨rfl,rfl⟩,hkh];omega
  ·rw [ah (by omega),ah hq]
   omega
 refine ⟨?_,e5⟩
 have hlen:(mV s b g seen t).orders.length=s.orders.length:=kQ;refine State.ext' rfl ?_ e3 e4 rfl rfl rfl
 show ql s b g (t+1)=(ql s b g t).set i {(mV s b g seen t).order i with lines:=((mV s b g seen t).order i).lines.set j {(mV s b g seen t).line i j with back:=((mV s b g seen t).line i j).back+1}}
 rw [uQ hio hjl,Jk i hio];unfold ql;apply wM
 ·simp
 ·intro a ha1 ha2;have ha:a<s.orders.length:=by simpa using ha1
  rw [yS,PK];have ea:s.order a=s.orders[a]:=kM ha;by_cases hai:i=a
  ·subst hai;rw [ak rfl,ea];simp only [Order.mk.injEq,nU];rw [ea] at hjl
   apply wM
   ·simp
   ·intro c hc1 hc2;have hc:c<s.orders[i].lines.length:=by simpa using hc1
    rw [yS,PK,e5];by_cases hcj:j=c
    ·subst hcj;have el:s.line i j=s.orders[i].lines[j]:=by unfold State.line;rw [ea,iZ hc]
     rw [ak rfl,ak ⟨rfl,rfl⟩,el];simp only [Line.mk.injEq,nU];omega
    ·rw [ah hcj,ah (by omega),yS,mM]
  ·rw [ah hai,yS];simp only [Order.mk.injEq,nU];apply wM
   ·simp
   ·intro c hc1 hc2;rw [yS,yS,e5,ah (by omega),mM]
theorem jaS (hs:iI p s) (ht:0≤t) (hlt:t<bound s b g) (h0:∀ x∈oN s b g t,¬ (x.src=(b:Int)∧x.good=(g:Int))):((iT s b g t).any (oz s b g).is)=true:=by
 have Zc:=bI.zn (DR hs b g) t;change (Ad b g).all (oN s b g t)=_ at Zc
 rw [xY,xY,jcy h0] at Zc
 have hp:=zJ hs b g;have hm:=oD hs b g;have hall:=bI.zn hp (t - fJ s.moves b g);have:=bI.Ph (bI.He hp (t - fJ s.moves b g));show ((oz s b g).rest s.holds (t - fJ s.moves b g)).any (oz s b g).is=true;rw [this,hall,jby];unfold bound iO at hlt
 exact lg (by omega)
end
section
variable {p:Plan} {s:State} {b g:Nat} {seen:Int}
theorem jg4 (h:Right p s) (f:Counts p s b g seen) (v:Int):iI p (mV s b g seen v):=by
 have hs:=h.sane;have hbl:b<s.on.length:=by rw [hs.ku];exact f.hb
 have hgl:g<(rowAt s.on b).length:=by rw [hs.rowLen f.hb];exact f.hg
 have hfl:g<s.fixed.length:=by rw [hs.fixed.1];exact f.hg
 refine iI.of ?_ (by rw [kQ];exact hs.jh) ?_ (fun o ho=>?_) (fun o k ho hk=>?_) (CO hs b g v) (fun x hx=>?_) (fun x hx=>?_)
  (aS.1 hs.form).2.2.2.2.1 (aS.1 hs.form).2.2.2.2.2.1 (E5 (aS.1 hs.form).2.2.2.2.2.2 hfl f.f0 f.f1)
 ·exact dM.2 ⟨hs.plan,E8 (dM.1 hs.shelf).2 ⟨f.s0,f.s1⟩ f.hb f.hg⟩
 ·refine bJ (bJ (yR _ _) ?_) hs.lJ
  rw [bI.KI];exact aA _
 ·rw [kQ] at ho
  rw [jG o ho,EL o ho];exact ⟨hs.jX ho,hs.kind ho⟩
 ·rw [kQ] at ho
  rw [jG o ho] at hk
  have hl:=hs.line ho hk;have h1:=(h.qI ho hk).1;have h2:=sU hs b g v o k;have h3:=(lK hs.holds o k).1;rw [uQ ho hk,jF];simp only;refine ⟨hl.1,hl.2.1,hl.2.2.1,?_⟩
  split at h1<;>omega
 ·obtain ⟨y,hy,e,_,_,_⟩:=bI.BN (zJ hs b g) _ x hx;have e':x={y with n:=x.n}:=e
  have h1:=ig.1 (bY.1 (aS.1 hs.form).2.2.1 y hy);obtain ⟨i,hi,rfl⟩:=cZ hy;have h2:=hs.oP hi;rw [bV hi] at h2
  rw [e'];exact ig.2 ⟨by rw [kQ];exact h1.1,by rw [jG _ (by show (s.holds[i]).order.toNat<_;omega)];exact h1.2.1,h1.2.2⟩
 ·obtain ⟨y,hy,e,a,a',_⟩:=bI.BN (DR hs b g) _ x hx;have e':x={y with n:=x.n}:=e
  have h1:=xZ.1 (bY.1 (aS.1 hs.form).2.2.2.1 y hy);change 1≤x.n at a
  change x.n≤y.n at a'
  rw [e'];exact xZ.2 ⟨h1.1,h1.2.1,h1.2.2.1,h1.2.2.2.1,a,by show x.n≤200;omega⟩
theorem Xa (h:Right p s) {t:Int} (h0:0≤t) (h1:t≤bound s b g):bound (mV s b g seen t) b g=bound s b g - t:=Iw h.sane h0 h1
theorem uh {t:Int} {x:Hold} (ho:x.order.toNat<s.orders.length) (hk:x.line.toNat<(s.order x.order.toNat).lines.length):(oz (mV s b g seen t) b g).is x=(oz s b g).is x:=by
 have e:((mV s b g seen t).line x.order.toNat x.line.toNat).good=(s.line x.order.toNat x.line.toNat).good:=by rw [uQ ho hk]
 cases h1:(oz s b g).is x
 ·cases h2:(oz (mV s b g seen t) b g).is x
  ·rfl
  ·rw [wB,e] at h2
   rw [wB.2 h2] at h1
   cases h1
 ·rw [wB] at h1 ⊢
  rw [e];exact h1
end
end Wh
