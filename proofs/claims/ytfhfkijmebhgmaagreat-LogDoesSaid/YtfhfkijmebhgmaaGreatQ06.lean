/- Texts of the claim, joined. -/
import Derived.Test.YtfhfkijmebhgmaaGreatQ05
set_option maxHeartbeats 20000000
set_option maxRecDepth 100000
namespace Wh
namespace gX
variable {α:Type} (C:gX α)
def mid(l:List α)(v:Int)(j:Nat):List α×Int:=(l.take j++(C.cut (l.drop j) v).1,(C.cut (l.drop j) v).2)
variable {C}
theorem je3(l:List α)(v:Int):C.mid l v l.length=(l,v):=by
 unfold mid;rw[wS,fG];show(l++[],v)=_;rw[iJ]
theorem mid_zero(l:List α)(v:Int):C.mid l v 0=C.cut l v:=rfl
theorem O6(l:List α)(v:Int)(j:Nat):(C.mid l v j).1.length=l.length:=by
 unfold mid;rw[aZ,QO,bT,fQ];omega
theorem ZN{l:List α}(v:Int){i j:Nat}(hi:i<l.length)(hij:i<j):(C.mid l v j).1[i]?=some l[i]:=by
 unfold mid;rw[fE (by rw[bT];omega),List.getElem?_take_of_lt hij,bf hi]
theorem je4{l:List α}(v:Int){j:Nat}(hj:j<l.length)(h:C.is l[j]=false):C.mid l v j=C.mid l v (j+1):=by
 unfold mid;rw[jE hj,DK h,dO hj,eH];rfl
theorem jhK{l:List α}(v:Int){j:Nat}(hj:j<l.length)(h:C.is l[j]=true):
  C.mid l v j=((C.mid l v (j+1)).1.set j (C.put l[j] (C.num l[j] - less (C.mid l v (j+1)).2 (C.num l[j]))),(C.mid l v (j+1)).2 - less (C.mid l v (j+1)).2 (C.num l[j])):=by
 unfold mid;rw[jE hj,DZ h,dO hj,eH];have hl:(List.take j l).length<=j:=by rw[bT];omega
 have e:j - (List.take j l).length=0:=by rw[bT];omega
 rw[mG _ _ hl,e];rfl
theorem je5{β:Type}(f:α->β)(hf:∀x n,f (C.put x n)=f x)(l:List α)(v:Int)(j:Nat):(C.mid l v j).1.map f=l.map f:=by
 unfold mid;rw[fJ,jfs f hf,<- fJ,mF]
theorem VO{l:List α}(h:∀x∈l,0<=C.num x)(v:Int)(j:Nat):min v 0<=(C.mid l v j).2/\(C.mid l v j).2<=v:=by
 have hd:∀x∈l.drop j,0<=C.num x:=λx hx=>h x (tu hx)
 have:=Jr hd v;have h2:=EG hd;unfold mid;simp only;omega
end gX
def xB(h:dZ):Int×Int×Int:=(h.aC,h.aG,h.bin)
theorem Fz(x:dZ)(r:List dZ)(o k b:Int):bW (x::r) o k b=if x.aC=o/\x.aG=k/\x.bin=b then x.n else bW r o k b:=by
 unfold bW;rw[AA]
 by_cases h:x.aC=o/\x.aG=k/\x.bin=b
 ·have e:uS o k b x=true:=by unfold uS;simp[h.1,h.2.1,h.2.2]
  rw[e,aB h]
 ·have e:uS o k b x=false:=by
   unfold uS;by_cases h1:x.aC=o<;>by_cases h2:x.aG=k<;>by_cases h3:x.bin=b<;>simp[h1,h2,h3]
   exact h ⟨h1,h2,h3⟩
  rw[e,ay h]
theorem Dy:∀ {l:List dZ},(l.map xB).Nodup->∀ {i:Nat} (hi:i<l.length),bW l l[i].aC l[i].aG l[i].bin=l[i].n
 |[],_,i,hi=>by simp at hi
 |x::r,hn,0,_=>by rw[Fz];simp
 |x::r,hn,i+1,hi=>by
  rw[dn,uh]at hn
  have hi':i<r.length:=by simpa using hi
  rw[Fz,ay]
  ·exact Dy hn.2 hi'
  ·rintro⟨h1,h2,h3⟩;refine hn.1 (kV.2 ⟨r[i],bU hi',?_⟩)
   unfold xB;simp only[rQ]at h1 h2 h3
   rw[h1,h2,h3]
theorem Qv{l:List dZ}{o k b:Int}(h:∀x∈l,¬(x.aC=o/\x.aG=k/\x.bin=b)):bW l o k b=0:=by
 induction l with
 |nil=>rfl
 |cons x r ih=>rw[Fz,ay (h x (dS ..)),ih λy hy=>h y (bP _ hy)]
theorem jbF{l:List dZ}(hn:(l.map xB).Nodup)(o k b:Int):bW (l.filter λh=>!decide (h.n=0)) o k b=bW l o k b:=by
 induction l with
 |nil=>rfl
 |cons x r ih=>
  rw[dn,uh]at hn
  rw[lq,Fz];by_cases h0:x.n=0
  ·rw[ay (by simp[h0]),ih hn.2]
   split
   ·rename_i h
    rw[h0];refine Qv λy hy hh=>hn.1 (kV.2 ⟨y,hy,?_⟩)
    unfold xB;rw[hh.1,hh.2.1,hh.2.2,h.1,h.2.1,h.2.2]
   ·rfl
  ·rw[aB (by simp[h0]),Fz,ih hn.2]
theorem jbu{l:List dZ}{j:Nat}(hj:j<l.length)(y:Int):(l.set j {l[j]with n:=y}).map xB=l.map xB:=by
 rw[List.map_set];apply ni;intro i;rw[qo]
 split
 ·rename_i h
  subst h;rw[aB (by simpa using hj),iZ,bf hj]
  rfl
 ·rfl
theorem VY{l:List dZ}(hn:(l.map xB).Nodup){j:Nat}(hj:j<l.length)(y:Int)(o k b:Int):
  bW (l.set j {l[j]with n:=y}) o k b=if l[j].aC=o/\l[j].aG=k/\l[j].bin=b then y else bW l o k b:=by
 have hn':((l.set j {l[j]with n:=y}).map xB).Nodup:=by rw[jbu hj];exact hn
 have kD:(l.set j {l[j]with n:=y}).length=l.length:=jU ..
 split
 ·rename_i h
  have:=Dy hn' (i:=j) (by omega)
  rw[pY]at this
  rw[<- h.1,<- h.2.1,<- h.2.2];exact this
 ·rename_i h
  by_cases hx:∃i,∃hi:i<l.length,l[i].aC=o/\l[i].aG=k/\l[i].bin=b
  ·obtain⟨i,hi,h1,h2,h3⟩:=hx;have hij:j≠i:=λe=>by subst e;exact h ⟨h1,h2,h3⟩
   have e1:=Dy hn hi;have e2:=Dy hn' (i:=i) (by omega)
   rw[CJ hij]at e2
   rw[h1,h2,h3]at e1 e2
   rw[e1,e2]
  ·have hnot:∀x∈l,¬(x.aC=o/\x.aG=k/\x.bin=b):=λx hx' hh=>by
    obtain⟨i,hi,rfl⟩:=aV hx';exact hx ⟨i,hi,hh⟩
   rw[Qv hnot,Qv];intro x hx' hh;obtain⟨i,hi,rfl⟩:=aV hx';by_cases hij:j=i
   ·subst hij;rw[pY]at hh
    exact h hh
   ·rw[CJ hij]at hh
    exact hx ⟨i,by omega,hh⟩
theorem Jc{l:List dZ}(h:iD l=true):(l.map xB).Nodup:=by
 have h2:=(gG.1 h).2;rw[List.Nodup,nY];refine List.Pairwise.imp (λ{a b} hlt he=>?_) h2
 unfold xB at he
 simp only[sQ]at he
 unfold fP at hlt
 rw[he.1,he.2.1,he.2.2]at hlt
 omega
def hdO(s:aJ)(b:Int)(l:List dZ):List Order:=
 s.ak.mapIdx λo x=>{x with aH:=x.aH.mapIdx λk y=>{y with dP:=y.dP+(bW s.aA o k b - bW l o k b)}}
def Nk(s:aJ)(b:Int)(l:List dZ):aJ:={s with aA:=l,ak:=hdO s b l}
section
variable {s:aJ} {b:Int} {l:List dZ}
theorem jae(o:Nat):(hdO s b l)[o]?=s.ak[o]?.map λx=>{x with aH:=x.aH.mapIdx λk y=>{y with dP:=y.dP+(bW s.aA o k b - bW l o k b)}}:=by
 unfold hdO;rw[qE]
theorem RG:(hdO s b l).length=s.ak.length:=by simp[hdO]
theorem SS{o:Nat}(ho:o<s.ak.length):(Nk s b l).aC o={s.aC o with aH:=(s.aC o).aH.mapIdx λk y=>{y with dP:=y.dP+(bW s.aA o k b - bW l o k b)}}:=by
 unfold aJ.aC aU Nk;simp only[dU,jae,bf ho]
 rfl
theorem SX{o:Nat}(ho:o<s.ak.length):((Nk s b l).aC o).aH.length=(s.aC o).aH.length:=by rw[SS ho];simp
theorem jb0{o k:Nat}(ho:o<s.ak.length)(hk:k<(s.aC o).aH.length):(Nk s b l).aG o k={s.aG o k with dP:=(s.aG o k).dP+(bW s.aA o k b - bW l o k b)}:=by
 unfold aJ.aG;rw[SS ho,qw (by simpa using hk),qw hk]
 simp
theorem jge{l':List dZ}(h:∀o k:Nat,bW l' o k b=bW l o k b):hdO s b l'=hdO s b l:=by
 unfold hdO;simp only[h]
theorem jiK:hdO s b s.aA=s.ak:=by
 have e:∀x:List Line,(x.mapIdx λ_ y=>y)=x:=λx=>by
  apply ni;intro i;simp
 have e2:∀x:List Order,(x.mapIdx λ_ y=>y)=x:=λx=>by
  apply ni;intro i;simp
 unfold hdO;simp only[Int.sub_self,jC,e,e2]
theorem jiJ:Nk s b s.aA=s:=by unfold Nk;rw[jiK]
theorem jiI(hn:(l.map xB).Nodup){j:Nat}(hj:j<l.length){o k:Nat}{m:Int}(h1:l[j].aC=o)(h2:l[j].aG=k)(h3:l[j].bin=b)(ho:o<s.ak.length)(hk:k<(s.aC o).aH.length):
  Nk s b (l.set j {l[j]with n:=l[j].n - m})=({Nk s b l with aA:=l.set j {l[j]with n:=l[j].n - m}}:aJ).lY o k {(Nk s b l).aG o k with dP:=((Nk s b l).aG o k).dP+m}:=by
 have hka:=Dy hn hj;rw[h1,h2,h3]at hka
 have xB:∀o' k':Nat,bW (l.set j {l[j]with n:=l[j].n - m}) o' k' b=bW l o' k' b - (if o'=o/\k'=k then m else 0):=λo' k'=>by
  rw[VY hn hj,h1,h2,h3];by_cases h:o'=o/\k'=k
  ·obtain⟨rfl,rfl⟩:=h;rw[aB ⟨rfl,rfl,rfl⟩,aB ⟨rfl,rfl⟩,hka]
  ·rw[ay (λhh=>h ⟨by omega,by omega⟩),ay h]
   omega
 have hord:(({Nk s b l with aA:=l.set j {l[j]with n:=l[j].n - m}}:aJ)).aC o=(Nk s b l).aC o:=rfl
 unfold aJ.lY;rw[hord];unfold Nk;simp only[aJ.mk.injEq,mg,mD];apply ni;intro o';rw[jae,qo]
 by_cases he:o=o'
 ·subst he;rw[aB rfl,aB (by rw[RG];exact ho),bf ho]
  have e0:s.aC o=s.ak[o]:=by unfold aJ.aC;rw[uy ho]
  have e1:aJ.aC {s with aA:=l,ak:=hdO s b l} o={s.aC o with aH:=(s.aC o).aH.mapIdx λk y=>{y with dP:=y.dP+(bW s.aA o k b - bW l o k b)}}:=SS ho
  have e2:aJ.aG {s with aA:=l,ak:=hdO s b l} o k={s.aG o k with dP:=(s.aG o k).dP+(bW s.aA o k b - bW l o k b)}:=jb0 ho hk
  rw[e1,e2];simp only[iH,mZ,Order.mk.injEq];refine⟨by rw[e0],?_⟩
  apply ni;intro k';rw[qE,qo,qE,<- e0]
  by_cases hke:k=k'
  ·subst hke;rw[aB rfl,aB (by simpa using hk),bf hk,xB o k,aB ⟨rfl,rfl⟩]
   have:s.aG o k=(s.aC o).aH[k]:=by unfold aJ.aG;rw[qw hk]
   rw[this];simp only[iH,mZ,Line.mk.injEq,mg];omega
  ·rw[ay hke];cases hq:(s.aC o).aH[k']? with
   |none=>rfl
   |some y=>
    simp only[iH];rw[xB o k',ay (λh=>hke h.2.symm)]
    simp
 ·rw[ay he,jae];cases hq:s.ak[o']? with
  |none=>rfl
  |some x=>
   simp only[iH,mZ,Order.mk.injEq,mg];apply ni;intro k';rw[qE,qE]
   cases hq2:x.aH[k']? with
   |none=>rfl
   |some y=>
    simp only[iH];rw[xB o' k',ay (λh=>he h.1.symm)]
    simp
end
theorem jgw{p:dA}{s:aJ}{b g:Nat}{jq:Int}(hs:o9 p s):
  let s1:aJ:={s with on:=setCell s.on b g jq,bg:=s.bg.set g (bI s.bg g+jq - cell s.on b g),aF:=(Iq b g).rest s.aF (bound s b g - jq)}
  wM s b g jq (over s b g jq)=Nk s1 b ((yt s1 b g).rest s1.aA ((Iq b g).mid s.aF (bound s b g - jq) 0).2):=by
 intro s1;have hm:=Kv hs b g;have hh:=HY hs b g;have hC:yt s1 b g=yt s b g:=rfl;have h1:yN s b g (over s b g jq)=(Iq b g).rest s.aF (bound s b g - jq):=by
  unfold yN over;rw[gX.Vp hm (bound s b g - jq)]
 have hov:=gX.Jr (λx hx=>by have:=hm x hx;omega) (bound s b g - jq) (C:=Iq b g) (l:=s.aF)
 have h2:pV s b g (over s b g jq)=(yt s1 b g).rest s1.aA ((Iq b g).mid s.aF (bound s b g - jq) 0).2:=by
  rw[hC,gX.mid_zero,hov];unfold pV over;rw[<- Gg,gX.Vp hh,gX.Vp hh (bound s b g - jq - _)];congr 1
  have:=gX.EG (C:=Iq b g) (l:=s.aF) λx hx=>by have:=hm x hx;omega
  omega
 unfold Nk wM;rw[<- h2,h1];rfl
def Qb(p:dA)(b:Int)(n:Nat->Nat->Int):List Nat->aJ->aJ
 |[],s=>s
 |q::r,s=>Qb p b n r (qL p s (q / 3) (q%3) (n (q / 3) (q%3)) b).1
section
variable {p:dA} {b:Int} {n:Nat→Nat→Int}
theorem MN(l r:List Nat)(s:aJ):Qb p b n (l++r) s=Qb p b n r (Qb p b n l s):=by
 induction l generalizing s with
 |nil=>rfl
 |cons q l ih=>exact ih _
theorem Vd(s:aJ)(o k:Nat):(qL p s o k 0 b).1=s:=by
 have:qL p s o k 0 b=(s,0):=JG (by omega)
 rw[this]
theorem jav(f:Nat->Bool)(hf:∀q,f q=false->n (q / 3) (q%3)=0)(l:List Nat)(s:aJ):Qb p b n (l.filter f) s=Qb p b n l s:=by
 induction l generalizing s with
 |nil=>rfl
 |cons q l ih=>
  cases h:f q
  ·rw[lF (by simp[h]),ih]
   show _=Qb p b n l (qL p s (q / 3) (q%3) (n (q / 3) (q%3)) b).1;rw[hf q h,Vd]
  ·rw[jr h];exact ih _
theorem jcu(o m:Nat)(hm:m<=3)(s:aJ):Qb p b n ((List.range m).map λk=>o*3+k) s=yY p o b (n o) m s:=by
 induction m with
 |zero=>rfl
 |succ m ih=>
  rw[lJ,fJ,MN,ih (by omega)]
  show(qL p (yY p o b (n o) m s) ((o*3+m) / 3) ((o*3+m)%3) (n ((o*3+m) / 3) ((o*3+m)%3)) b).1=(qL p (yY p o b (n o) m s) o m (n o m) b).1;rw[show(o*3+m) / 3=o by omega,show(o*3+m)%3=m by omega]
theorem jba(m:Nat):List.range ((m+1)*3)=List.range (m*3)++(List.range 3).map λk=>m*3+k:=by
 have h:(m+1)*3=m*3+3:=by omega
 rw[h,List.range_add]
theorem Oz{o m:Nat}{f:Nat->Int}{s:aJ}:∀d,(∀k,m<=k->f k=0)->yY p o b f (m+d) s=yY p o b f m s
 |0,_=>rfl
 |d+1,h=>by
  show(qL p (yY p o b f (m+d) s) o (m+d) (f (m+d)) b).1=_;rw[h (m+d) (by omega),Vd,Oz d h]
theorem Y8{s:aJ}(hl:∀o,o<s.ak.length->(s.aC o).aH.length<=3)(hz:∀o k,(s.aC o).aH.length<=k->n o k=0)(kD:∀m o,m<=s.ak.length->((Ba p b n m s).aC o).aH.length=(s.aC o).aH.length):
  ∀m,m<=s.ak.length->Qb p b n (List.range (m*3)) s=Ba p b n m s
 |0,_=>rfl
 |m+1,hm=>by
  rw[jba,MN,Y8 hl hz kD m (by omega),jcu m 3 (au _)]
  show _=yY p m b (n m) ((Ba p b n m s).aC m).aH.length (Ba p b n m s);rw[kD m m (by omega)]
  obtain⟨d,hd⟩:∃d,3=(s.aC m).aH.length+d:=⟨3 - (s.aC m).aH.length,by have:=hl m (by omega);omega⟩
  rw[hd,Oz d λk hk=>hz m k hk]
end
def act(p:dA)(s:aJ)(x:yK):aJ×Int:=
 if x.dW=1 then rF p s x.a x.b x.n
 else if x.dW=2 then enter p s x.aH
 else if x.dW=3 then zq p s
 else if x.dW=4 then zJ p s x.a
 else if x.dW=5 then pick p s x.a x.b x.c x.n
 else if x.dW=6 then fill p s
 else if x.dW=7 then CW p s x.a x.n
 else if x.dW=8 then count p s x.a x.b x.n
 else(jD,8)
def BH(s:aJ)(g:Int):Int:=VF (jcf s g) s s.ak.length 0
theorem VE{F G:Nat->Nat->Int}{s t:aJ}{n:Nat}(hl:∀o,o<n->(t.aC o).aH.length=(s.aC o).aH.length)(hF:∀o k,o<n->k<(s.aC o).aH.length->G o k=F o k):VF G t n 0=VF F s n 0:=by
 unfold VF;congr 1
 refine zo λo ho=>?_
 rw[hl o ho];exact zo λk hk=>hF o k ho hk
theorem Gt{s t:aJ}(h:t.ak.length=s.ak.length)(hl:∀o,o<s.ak.length->(t.aC o).aH.length=(s.aC o).aH.length)
  (hg:∀o k,o<s.ak.length->k<(s.aC o).aH.length->(t.aG o k).dh=(s.aG o k).dh/\(t.aG o k).oh=(s.aG o k).oh) (g:Int):BH t g=BH s g:=by
 unfold BH;rw[h];refine VE hl λo k ho hk=>?_
 obtain⟨h1,h2⟩:=hg o k ho hk;unfold jcf;rw[h1,h2]
theorem jhE{F G:Nat->Nat->Int}{s t:aJ}{n i j:Nat}{d:Int}(hl:∀o,o<n->(t.aC o).aH.length=(s.aC o).aH.length)(hi:i<n)(hj:j<(s.aC i).aH.length)
  (hF:∀o k,o<n->k<(s.aC o).aH.length->¬(o=i/\k=j)->G o k=F o k) (hd:G i j=F i j+d):VF G t n 0=VF F s n 0+d:=by
 have:=EH (f:=λo=>nH (F o) (s.aC o).aH.length) (g:=λo=>nH (G o) (t.aC o).aH.length) (n:=n) (i:=i) (d:=d) hi (λo ho hne=>by
  show nH (G o) (t.aC o).aH.length=nH (F o) (s.aC o).aH.length;rw[hl o ho];exact zo λk hk=>hF o k ho hk (λh=>hne h.1)) (by
  show nH (G i) (t.aC i).aH.length=nH (F i) (s.aC i).aH.length+d;rw[hl i hi];exact EH hj (λk hk hne=>hF i k hi hk (λh=>hne h.2)) hd)
 unfold VF;rw[this];show _+0=_+0+d;omega
structure Kept(p:dA)(s t:aJ):Prop where
 check:aQ p t=0
 went:∀g,g<p.aP.length->bI t.O g - bI s.O g=BH t g - BH s g/\BH s g<=BH t g
section
variable {p:dA} {s:aJ}
theorem Zx{b g n:Int}(h:(rF p s b g n).2=0):Kept p s (rF p s b g n).1:=by
 refine⟨(Zw h).1,λk hk=>?_⟩
 obtain⟨_,_,_,_,_,_,_,e⟩:=Kt h;rw[e];have:BH {s with on:=setCell s.on b.toNat g.toNat (cell s.on b.toNat g.toNat+n),gY:=s.gY.set g.toNat (bI s.gY g.toNat+n)} k=BH s k:=Gt rfl (λ_ _=>rfl) (λ_ _ _ _=>⟨rfl,rfl⟩) k
 rw[this];exact⟨by show bI s.O k - bI s.O k=_;omega,iM _⟩
theorem jet{l:List Line}(h:(enter p s l).2=0):Kept p s (enter p s l).1:=by
 refine⟨(jes h).1,λg hg=>?_⟩
 obtain⟨_,_,_,hl,e⟩:=Ou h;rw[e];have hor:∀o,o<s.ak.length->({s with ak:=s.ak++[⟨0,l⟩]}:aJ).aC o=s.aC o:=λo ho=>by
  unfold aJ.aC aU;simp[ho,fE]
 have hnew:({s with ak:=s.ak++[⟨0,l⟩]}:aJ).aC s.ak.length=⟨0,l⟩:=by
  unfold aJ.aC aU;simp
 have e1:BH {s with ak:=s.ak++[⟨0,l⟩]} g=BH s g:=by
  unfold BH;have kD:({s with ak:=s.ak++[⟨0,l⟩]}:aJ).ak.length=s.ak.length+1:=by simp
  rw[kD,jdw];have e2:=VE (F:=jcf s g) (G:=jcf {s with ak:=s.ak++[⟨0,l⟩]} g) (s:=s) (t:={s with ak:=s.ak++[⟨0,l⟩]}) (n:=s.ak.length) (λo ho=>by rw[hor o ho]) (λo k ho hk=>by
   unfold jcf aJ.aG;rw[hor o ho])
  rw[<- e2];unfold VF;congr 1
  refine Vj λk hk=>?_
  rw[hnew]at hk
  unfold jcf aJ.aG;rw[hnew];have:=(hl (gK l k) (by rw[qw hk];exact bU hk)).2.1
  simp only;rw[this];split<;>rfl
 rw[e1];exact⟨by show bI s.O g - bI s.O g=_;omega,iM _⟩
theorem Zv(h:(zq p s).2=0):Kept p s (zq p s).1:=by
 obtain⟨hc,e⟩:=PN h;rw[e];have ht:=GI hc;refine⟨XL hc,λg hg=>?_⟩
 have:BH (Ec p s) g=BH s g:=Gt (ja5 hc) (λo ho=>XK hc ho) (λo k ho hk=>by
  obtain⟨a1,_,a3⟩:=ht.aG o k;rw[a1,a3,Gu s ho hk];split<;>exact⟨rfl,rfl⟩) g
 rw[this,ht.O];exact⟨by show bI s.O g - bI s.O g=_;omega,iM _⟩
theorem jax{o:Int}(h:(zJ p s o).2=0):Kept p s (zJ p s o).1:=by
 obtain⟨hc,i,rfl,hi,_,e⟩:=RV h;rw[e];refine⟨jay hc hi,λg hg=>?_⟩
 have:BH (xE s i) g=BH s g:=Gt (EF s i) (λo _=>FM hi o) (λo k ho hk=>by
  rw[J9 hi hk];split<;>exact⟨rfl,rfl⟩) g
 rw[this];exact⟨by show bI s.O g - bI s.O g=_;omega,iM _⟩
theorem jdv{o k b n:Int}(h:(pick p s o k b n).2=0):Kept p s (pick p s o k b n).1:=by
 obtain⟨hc,i,j,c,rfl,rfl,rfl,f,e⟩:=VB h;rw[e];obtain⟨h1,h2,h3,h4,h5,_⟩:=LW hc f;have hr:=jf hc;have hn0:=f.n0;refine⟨h1,λg hg=>?_⟩
 obtain⟨eg,hgl⟩:=Ql hr f;obtain⟨ht,_,_⟩:=I9 hr f;have hgood:((Ai p s i j c n).aG i j).dh=(s.aG i j).dh:=(jbh hc f).2.2.1;have hout:bI (Ai p s i j c n).O g=bI s.O g+if g=(s.aG i j).dh.toNat then n else 0:=by
  rw[Ja,(EC _ i).2.2.2.2.1,ht.O];show bI (s.O.set _ _) g=_;rw[IJ (by rw[hr.sane.O.1];exact hgl)]
  split
  ·rename_i e;rw[e]
  ·omega
 have Ky:BH (Ai p s i j c n) g=BH s g+if g=(s.aG i j).dh.toNat then n else 0:=by
  unfold BH;rw[h2];refine jhE (i:=i) (j:=j) (λo _=>h3 o) f.ho f.hk (λo' k' _ _ hne=>?_) ?_
  ·unfold jcf;rw[(h4 o' k' hne).2]
  ·unfold jcf;rw[hgood,h5];by_cases hq:g=(s.aG i j).dh.toNat
   ·rw[aB hq,aB (by omega),aB (by omega)]
   ·rw[ay hq,ay (by omega),ay (by omega)]
    rfl
 rw[hout,Ky];constructor
 ·omega
 ·split<;>omega
theorem jep(h:(fill p s).2=0):Kept p s (fill p s).1:=by
 obtain⟨hc,e⟩:=WU h;rw[e];have hf:=jaq hc;refine⟨jap hf,λg hg=>?_⟩
 have e1:=hf.rest;have:BH (Oq p s) g=BH s g:=by rw[e1];exact Gt rfl (λ_ _=>rfl) (λ_ _ _ _=>⟨rfl,rfl⟩) g
 rw[this];have e2:(Oq p s).O=s.O:=by rw[e1]
 rw[e2];exact⟨by omega,iM _⟩
theorem jbq{k n:Int}(h:(CW p s k n).2=0):Kept p s (CW p s k n).1:=by
 obtain⟨hc,i,rfl,f,e⟩:=TP h;rw[e];refine⟨jbr hc f,λg hg=>?_⟩
 have:BH (AQ s i n) g=BH s g:=Gt rfl (λ_ _=>rfl) (λ_ _ _ _=>⟨rfl,rfl⟩) g
 rw[this];exact⟨by show bI s.O g - bI s.O g=_;omega,iM _⟩
theorem jcz{b g n:Int}(h:(count p s b g n).2=0):Kept p s (count p s b g n).1:=by
 obtain⟨hc,i,j,rfl,rfl,f,e⟩:=Uh h;rw[e];have ht:=MO hc f;refine⟨jcA hc f,λk hk=>?_⟩
 have:BH (H8 p s i j n) k=BH s k:=Gt (jgz hc f) (λo ho=>jcy hc f ho) (λo k ho hk=>by
  obtain⟨a1,_,a3⟩:=ht.aG o k;rw[a1,a3,Ef ho hk];exact⟨rfl,rfl⟩) k
 rw[this,ht.O];exact⟨by show bI s.O k - bI s.O k=_;omega,iM _⟩
theorem jcN{x:yK}(h:(act p s x).2=0):aQ p s=0/\Kept p s (act p s x).1:=by
 unfold act at h ⊢
 split at h
 ·rename_i hk;rw[aB hk];exact⟨(Kt h).1,Zx h⟩
 rename_i h1;rw[ay h1]
 split at h
 ·rename_i hk;rw[aB hk];exact⟨(Ou h).1,jet h⟩
 rename_i h2;rw[ay h2]
 split at h
 ·rename_i hk;rw[aB hk];exact⟨(PN h).1,Zv h⟩
 rename_i h3;rw[ay h3]
 split at h
 ·rename_i hk;rw[aB hk];exact⟨(RV h).1,jax h⟩
 rename_i h4;rw[ay h4]
 split at h
 ·rename_i hk;rw[aB hk];exact⟨(VB h).1,jdv h⟩
 rename_i h5;rw[ay h5]
 split at h
 ·rename_i hk;rw[aB hk];exact⟨(WU h).1,jep h⟩
 rename_i h6;rw[ay h6]
 split at h
 ·rename_i hk;rw[aB hk];exact⟨(TP h).1,jbq h⟩
 rename_i h7;rw[ay h7]
 split at h
 ·rename_i hk;rw[aB hk];exact⟨(Uh h).1,jcz h⟩
 simp at h
end
def dI(t:List Nat)(i:Nat):Nat:=t.getD i 0
def ql(t:List Nat):Nat->List Line
 |0=>[]
 |m+1=>⟨dI t 0,dI t 1,dI t 2,dI t 3⟩::ql (t.drop 4) m
def oz(t:List Nat):Nat:=if t.length<6 then 0 else if 3<dI t 5\/t.length<6+4*dI t 5 then 0 else 6+4*dI t 5
def yI(t:List Nat):yK:=⟨dI t 0,dI t 1,dI t 2,dI t 3,dI t 4,ql (t.drop 6) (dI t 5)⟩
def rE:Nat->List Nat->List yK×Nat
 |0,_=>([],0)
 |n+1,t=>if oz t=0 then([],0)else(yI t::(rE n (t.drop (oz t))).1,oz t+(rE n (t.drop (oz t))).2)
def qj(t:List Nat):List yK×Int×Int:=if 4096<t.length then([],0,2)else((rE 60 t).1,(rE 60 t).2,0)
def qJ(n:Int):Bool:=cZ n 0 255
def Jf(x:Line):Bool:=qJ x.dh&&qJ x.iw&&qJ x.oh&&qJ x.dP
def O8(x:Line):List Nat:=[x.dh.toNat,x.iw.toNat,x.oh.toNat,x.dP.toNat]
def OM(x:yK):List Nat:=[x.dW.toNat,x.a.toNat,x.b.toNat,x.c.toNat,x.n.toNat,x.aH.length]++x.aH.flatMap O8
def MS(x:yK):Bool:=qJ x.dW&&qJ x.a&&qJ x.b&&qJ x.c&&qJ x.n&&x.aH.all Jf
def IU(x:yK):List Nat×Int:=if !(MS x)then([],3)else if 3<x.aH.length then([],2)else(OM x,0)
def wL(p:dA):List yK->aJ->aJ
 |[],s=>s
 |x::l,s=>wL p l (if(act p s x).2=0 then(act p s x).1 else s)
def sS(p:dA)(t:List Nat):aJ×Int×Int:=
 if gQ p≠0 then(jD,0,gQ p)else if(qj t).2.2≠0 then(jD,0,(qj t).2.2)else(wL p (qj t).1 (begin p),((qj t).1.length:Int),0)
theorem Tz(t:List Nat):oz t<=t.length:=by
 unfold oz;split
 ·omega
 ·split<;>omega
theorem jeI{t:List Nat}(h:oz t≠0):6<=oz t/\oz t=6+4*dI t 5/\dI t 5<=3:=by
 unfold oz at h ⊢
 split at h
 ·exact absurd rfl h
 ·rename_i h1
  rw[ay h1];split at h
  ·exact absurd rfl h
  ·rename_i h2
   rw[ay h2];omega
theorem Vr:∀(n:Nat) (t:List Nat),(rE n t).1.length<=n/\(rE n t).2<=t.length
 |0,t=>⟨au _,aK _⟩
 |n+1,t=>by
  rw[rE];split
  ·exact⟨aK _,aK _⟩
  ·have h1:=Vr n (t.drop (oz t));have h2:=Tz t;rw[fQ]at h1
   simp only[dw];omega
theorem L8{n:Int}:qJ n=true↔0<=n/\n<=255:=dV
def ok(x:yK):Prop:=MS x=true/\x.aH.length<=3
def whole:List yK->Nat->Nat
 |[],_=>0
 |x::l,k=>if(OM x).length<=k then whole l (k - (OM x).length)+1 else 0
theorem Qa(p:dA):∀(l m:List yK) (s:aJ),wL p (l++m) s=wL p m (wL p l s)
 |[],_,_=>rfl
 |x::l,m,s=>by
  rw[jK,wL,wL,Qa p l m]
theorem MK{p:dA}:∀ {l:List yK} {s:aJ},aQ p s=0->aQ p (wL p l s)=0
 |[],_,h=>h
 |x::l,s,h=>by
  rw[wL];refine MK ?_
  split
  ·rename_i h1
   exact(jcN h1).2.check
  ·exact h
section
variable {p:dA} {s:aJ} {b g:Nat} {jq t:Int}
theorem Ug(hs:o9 p s)(ht:t<=lZ s.aF b g):pV s b g t=s.aA:=gX.rest_none (HY hs b g) (by omega)
theorem UD{t':Int}(h:∀o k:Int,rH s b g t' o k=rH s b g t o k):zW s b g t'=zW s b g t:=by
 unfold zW;simp only[h]
theorem je2{l:List Move}(h:∀x∈l,¬(x.src=(b:Int)/\x.dh=(g:Int))):lZ l b g=0:=by
 unfold lZ;induction l with
 |nil=>rfl
 |cons x r ih=>
  rw[dn,iI,ih λy hy=>h y (bP _ hy)]
  unfold Aj;rw[ay (h x (dS ..))];rfl
theorem jds(hs:o9 p s)(ht:0<=t){k:Nat}(hk:k<(yN s b g t).length)(h1:(bH (yN s b g t) k).src=b/\(bH (yN s b g t) k).dh=g)(h2:∀j,k<j->j<(yN s b g t).length->¬((bH (yN s b g t) j).src=b/\(bH (yN s b g t) j).dh=g)):
  wM s b g jq (t+1)={wM s b g jq t with aF:=if(bH (yN s b g t) k).n=1 then(yN s b g t).eraseIdx k else(yN s b g t).set k {bH (yN s b g t) k with n:=(bH (yN s b g t) k).n - 1}}/\(∀o k:Int,rH s b g (t+1) o k=rH s b g t o k):=by
 have hp:=Kv hs b g;have kE:=gX.GY hp t;have wK:0<(Iq b g).all (yN s b g t):=by
  have:=gX.U3 (gX.ND hp t);have hany:((Iq b g).rest s.aF t).any (Iq b g).is=true:=lu.2 ⟨(yN s b g t)[k],bU hk,by rw[Rj,<- pI hk];exact h1⟩
  rw[hany]at this
  exact kQ this.symm
 change(Iq b g).all (yN s b g t)=_ at kE
 rw[Gg]at kE
 rw[Gg]at wK
 have hm:=yB hs b g;have hlt:t+1<=lZ s.aF b g:=by rw[Gg]at kE;omega
 have e1:yN s b g (t+1)=(Iq b g).dec (yN s b g t):=gX.Yz hp ht (by rw[Gg];exact hlt)
 have e2:=gX.jeu (C:=Iq b g) hk (by rw[Rj,<- pI hk];exact h1) (λj hj hkj=>by
  cases hi:(Iq b g).is (yN s b g t)[j]
  ·rfl
  ·rw[Rj,<- pI hj]at hi
   exact absurd hi (h2 j hkj hj))
 rw[<- pI hk]at e2
 have e3:pV s b g (t+1)=pV s b g t:=by rw[Ug hs hlt,Ug hs (by omega)]
 have e4:∀o k:Int,rH s b g (t+1) o k=rH s b g t o k:=λo k=>by unfold rH;rw[e3]
 refine⟨?_,e4⟩
 refine aJ.ext' rfl (UD e4) e3 ?_ rfl rfl rfl
 show yN s b g (t+1)=_;rw[e1,e2];rfl
theorem jbG{l:List dZ}(hl:iD l=true){k:Nat}(hk:k<l.length):bW l (hold l k).aC (hold l k).aG (hold l k).bin=(hold l k).n:=by
 obtain⟨h1,h2⟩:=gG.1 hl;rw[iL hk];exact Df h1 h2 (bU hk)
theorem jj6{l:List dZ}(hl:iD l=true){k:Nat}(hk:k<l.length)(m:Int):jH l {hold l k with n:=m}=if m=0 then l.eraseIdx k else l.set k {hold l k with n:=m}:=by
 have hp:pos l (hold l k)=k:=pos_eq (jh hk) (λi hi=>jbo hl hi hk) (λ_=>Int.le_of_eq (G6.2 ⟨rfl,rfl,rfl⟩).symm)
 have hf:zN l (hold l k)=true:=yV.2 ⟨by rw[hp];exact hk,by rw[hp];exact G6.2 ⟨rfl,rfl,rfl⟩⟩
 have xB:=Hy hl hk;split
 ·rename_i h0
  rw[Yk hl (h:={hold l k with n:=m}) xB h0 (by rw[jan];exact hf),jhB,hp]
 ·rename_i h0
  rw[Yj hl (h:={hold l k with n:=m}) xB h0 (by rw[jan];exact hf),jhB,hp]
theorem jdt(hs:o9 p s)(ht:0<=t)(h0:∀x∈yN s b g t,¬(x.src=(b:Int)/\x.dh=(g:Int))){k:Nat}(hk:k<(pV s b g t).length)
  (h1:(yt s b g).is (hold (pV s b g t) k)=true) (h2:∀j,k<j->j<(pV s b g t).length->(yt s b g).is (hold (pV s b g t) j)=false) {i j:Nat} (hi:(hold (pV s b g t) k).aC=i) (hj:(hold (pV s b g t) k).aG=j) (hio:i<s.ak.length) (hjl:j<(s.aC i).aH.length):
  wM s b g jq (t+1)=({wM s b g jq t with aA:=jH (pV s b g t) {hold (pV s b g t) k with n:=(hold (pV s b g t) k).n - 1}}:aJ).lY i j {(wM s b g jq t).aG i j with dP:=((wM s b g jq t).aG i j).dP+1}/\
  ∀o k:Nat,rH s b g (t+1) o k=rH s b g t o k+if o=i/\k=j then 1 else 0:=by
 have hok:=Jt hs b g t;have jbW:=gX.GY (Kv hs b g) t;change(Iq b g).all (yN s b g t)=_ at jbW
 rw[Gg,Gg,je2 h0]at jbW
 have hm:=yB hs b g;have hge:lZ s.aF b g<=t:=by omega
 have hp:=HY hs b g;have kE:=gX.GY hp (t - lZ s.aF b g);have wK:0<(yt s b g).all (pV s b g t):=by
  have:=gX.U3 (gX.ND hp (t - lZ s.aF b g));have hany:((yt s b g).rest s.aA (t - lZ s.aF b g)).any (yt s b g).is=true:=lu.2 ⟨(pV s b g t)[k],bU hk,by rw[<- iL hk];exact h1⟩
  rw[hany]at this
  exact kQ this.symm
 change(yt s b g).all (pV s b g t)=_ at kE
 have e0:t+1 - lZ s.aF b g=(t - lZ s.aF b g)+1:=by omega
 have e1:pV s b g (t+1)=(yt s b g).dec (pV s b g t):=by
  show(yt s b g).rest s.aA (t+1 - lZ s.aF b g)=_;rw[e0];exact gX.Yz hp (by omega) (by omega)
 have e2:=gX.jeu (C:=yt s b g) hk (by rw[<- iL hk];exact h1) (λj hj hkj=>by rw[<- iL hj];exact h2 j hkj hj)
 rw[<- iL hk]at e2
 have e3:pV s b g (t+1)=jH (pV s b g t) {hold (pV s b g t) k with n:=(hold (pV s b g t) k).n - 1}:=by
  rw[e1,e2,jj6 hok hk];show(if(hold (pV s b g t) k).n=1 then _ else _)=_
  by_cases hz:(hold (pV s b g t) k).n=1
  ·rw[aB hz,aB (by omega)]
  ·rw[ay hz,ay (by omega)]
   rfl
 have e4:yN s b g (t+1)=yN s b g t:=by
  show((Iq b g).cut s.aF (t+1)).1.filter _=((Iq b g).cut s.aF t).1.filter _;rw[gX.RP (λx hx=>by have:=Kv hs b g x hx;omega) (by rw[Gg];omega),gX.RP (λx hx=>by have:=Kv hs b g x hx;omega) (by rw[Gg];omega)]
 have xB:=Hy hok hk;have jb5:=(ES.1 h1).1;have hn:=jfS hok hk;have e5:∀o k':Nat,rH s b g (t+1) o k'=rH s b g t o k'+if o=i/\k'=j then 1 else 0:=λo k'=>by
  unfold rH;rw[e3,ER (h:={hold (pV s b g t) k with n:=(hold (pV s b g t) k).n - 1}) hok xB (by simp only;omega)]
  have hkh:=jbG hok hk;simp only;rw[hi,hj,jb5]at hkh ⊢
  by_cases hq:o=i/\k'=j
  ·obtain⟨rfl,rfl⟩:=hq;rw[aB ⟨rfl,rfl,rfl⟩,aB ⟨rfl,rfl⟩,hkh];omega
  ·rw[ay (by omega),ay hq]
   omega
 refine⟨?_,e5⟩
 have kD:(wM s b g jq t).ak.length=s.ak.length:=uD;refine aJ.ext' rfl ?_ e3 e4 rfl rfl rfl
 show zW s b g (t+1)=(zW s b g t).set i {(wM s b g jq t).aC i with aH:=((wM s b g jq t).aC i).aH.set j {(wM s b g jq t).aG i j with dP:=((wM s b g jq t).aG i j).dP+1}}
 rw[Ef hio hjl,Pn i hio];unfold zW;apply lW
 ·simp
 ·intro a ha1 ha2;have ha:a<s.ak.length:=by simpa using ha1
  rw[lN,zS];have ea:s.aC a=s.ak[a]:=uy ha;by_cases hai:i=a
  ·subst hai;rw[aB rfl,ea];simp only[Order.mk.injEq,mg];rw[ea]at hjl
   apply lW
   ·simp
   ·intro c hc1 hc2;have hc:c<s.ak[i].aH.length:=by simpa using hc1
    rw[lN,zS,e5];by_cases hcj:j=c
    ·subst hcj;have el:s.aG i j=s.ak[i].aH[j]:=by unfold aJ.aG;rw[ea,qw hc]
     rw[aB rfl,aB ⟨rfl,rfl⟩,el];simp only[Line.mk.injEq,mg];omega
    ·rw[ay hcj,ay (by omega),lN,jC]
  ·rw[ay hai,lN];simp only[Order.mk.injEq,mg];apply lW
   ·simp
   ·intro c hc1 hc2;rw[lN,lN,e5,ay (by omega),jC]
theorem jdr(hs:o9 p s)(ht:0<=t)(hlt:t<bound s b g)(h0:∀x∈yN s b g t,¬(x.src=(b:Int)/\x.dh=(g:Int))):((pV s b g t).any (yt s b g).is)=true:=by
 have jbW:=gX.GY (Kv hs b g) t;change(Iq b g).all (yN s b g t)=_ at jbW
 rw[Gg,Gg,je2 h0]at jbW
 have hp:=HY hs b g;have hm:=yB hs b g;have kE:=gX.GY hp (t - lZ s.aF b g);have:=gX.U3 (gX.ND hp (t - lZ s.aF b g));show((yt s b g).rest s.aA (t - lZ s.aF b g)).any (yt s b g).is=true;rw[this,kE,jd6];unfold bound pK at hlt
 exact iG (by omega)
end
section
variable {p:dA} {s:aJ} {b g:Nat} {jq:Int}
theorem jjA(h:lI p s)(f:zY p s b g jq)(v:Int):o9 p (wM s b g jq v):=by
 have hs:=h.sane;have hbl:b<s.on.length:=by rw[hs.tY];exact f.hb
 have hgl:g<(fO s.on b).length:=by rw[hs.rowLen f.hb];exact f.hg
 have hfl:g<s.bg.length:=by rw[hs.bg.1];exact f.hg
 refine o9.of ?_ (by rw[uD];exact hs.qH) ?_ (λo ho=>?_) (λo k ho hk=>?_) (Jt hs b g v) (λx hx=>?_) (λx hx=>?_)
  (dR.1 hs.form).2.2.2.2.1 (dR.1 hs.form).2.2.2.2.2.1 (LK (dR.1 hs.form).2.2.2.2.2.2 hfl f.f0 f.f1)
 ·exact jZ.2 ⟨hs.plan,LM (jZ.1 hs.shelf).2 ⟨f.s0,f.s1⟩ f.hb f.hg⟩
 ·refine aY (aY (kY _ _) ?_) hs.vJ
  rw[gX.QO];exact au _
 ·rw[uD]at ho
  rw[rY o ho,Ld o ho];exact⟨hs.tN ho,hs.dW ho⟩
 ·rw[uD]at ho
  rw[rY o ho]at hk
  have hl:=hs.aG ho hk;have h1:=(h.AU ho hk).1;have h2:=Dl hs b g v o k;have h3:=(vK hs.aA o k).1;rw[Ef ho hk,rP];simp only;refine⟨hl.1,hl.2.1,hl.2.2.1,?_⟩
  split at h1<;>omega
 ·obtain⟨y,hy,e,_,_,_⟩:=gX.I7 (HY hs b g) _ x hx;have e':x={y with n:=x.n}:=e
  have h1:=nZ.1 (aX.1 (dR.1 hs.form).2.2.1 y hy);obtain⟨i,hi,rfl⟩:=aV hy;have h2:=hs.yR hi;rw[iL hi]at h2
  rw[e'];exact nZ.2 ⟨by rw[uD];exact h1.1,by rw[rY _ (by show(s.aA[i]).aC.toNat<_;omega)];exact h1.2.1,h1.2.2⟩
 ·obtain⟨y,hy,e,a,a',_⟩:=gX.I7 (Kv hs b g) _ x hx;have e':x={y with n:=x.n}:=e
  have h1:=Gh.1 (aX.1 (dR.1 hs.form).2.2.2.1 y hy);change 1<=x.n at a
  change x.n<=y.n at a'
  rw[e'];exact Gh.2 ⟨h1.1,h1.2.1,h1.2.2.1,h1.2.2.2.1,a,by show x.n<=200;omega⟩
theorem jau(h:lI p s){t:Int}(h0:0<=t)(h1:t<=bound s b g):bound (wM s b g jq t) b g=bound s b g - t:=Oy h.sane h0 h1
theorem DZ{t:Int}{x:dZ}(ho:x.aC.toNat<s.ak.length)(hk:x.aG.toNat<(s.aC x.aC.toNat).aH.length):(yt (wM s b g jq t) b g).is x=(yt s b g).is x:=by
 have e:((wM s b g jq t).aG x.aC.toNat x.aG.toNat).dh=(s.aG x.aC.toNat x.aG.toNat).dh:=by rw[Ef ho hk]
 cases h1:(yt s b g).is x
 ·cases h2:(yt (wM s b g jq t) b g).is x
  ·rfl
  ·rw[ES,e]at h2
   rw[ES.2 h2]at h1
   cases h1
 ·rw[ES]at h1 ⊢
  rw[e];exact h1
end
end Wh
