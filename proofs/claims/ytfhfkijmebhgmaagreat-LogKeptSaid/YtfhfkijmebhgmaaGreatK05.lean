/- Texts of the claim, joined. -/
import Derived.Test.YtfhfkijmebhgmaaGreatK04
set_option maxHeartbeats 20000000
set_option maxRecDepth 100000
namespace Wh
section
variable {p:dA} {s:aJ} {b g:Nat} {jq:Int}
theorem jjA(h:lI p s)(f:zY p s b g jq)(v:Int):o9 p (wM s b g jq v):=by
 have hs:=h.sane;have hbl:b<s.on.length:=by rw[hs.tY];exact f.hb
 have hgl:g<(fO s.on b).length:=by rw[hs.rowLen f.hb];exact f.hg
 have hfl:g<s.bg.length:=by rw[hs.bg.1];exact f.hg
 refine o9.of ?_ (by rw[uD];exact hs.qH) ?_ (λo ho=>?_) (λo k ho hk=>?_) (Jt hs b g v) (λx hx=>?_) (λx hx=>?_)
  (dR.1 hs.form).2.2.2.2.1 (dR.1 hs.form).2.2.2.2.2.1 (LK (dR.1 hs.form).2.2.2.2.2.2 hfl f.f0 f.f1)
 ·exact jZ.2 ⟨hs.plan,LM (jZ.1 hs.shelf).2 ⟨f.s0,f.s1⟩ f.hb f.hg⟩
 ·refine aY (aY (kY _ _) ?_) hs.vJ
  rw[gX.QO];exact au _
 ·rw[uD]at ho
  rw[rY o ho,Ld o ho];exact⟨hs.tN ho,hs.dW ho⟩
 ·rw[uD]at ho
  rw[rY o ho]at hk
  have hl:=hs.aG ho hk;have h1:=(h.AU ho hk).1;have h2:=Dl hs b g v o k;have h3:=(vK hs.aA o k).1;rw[Ef ho hk,rP];simp only;refine⟨hl.1,hl.2.1,hl.2.2.1,?_⟩
  split at h1<;>omega
 ·obtain⟨y,hy,e,_,_,_⟩:=gX.I7 (HY hs b g) _ x hx;have e':x={y with n:=x.n}:=e
  have h1:=nZ.1 (aX.1 (dR.1 hs.form).2.2.1 y hy);obtain⟨i,hi,rfl⟩:=aV hy;have h2:=hs.yR hi;rw[iL hi]at h2
  rw[e'];exact nZ.2 ⟨by rw[uD];exact h1.1,by rw[rY _ (by show(s.aA[i]).aC.toNat<_;omega)];exact h1.2.1,h1.2.2⟩
 ·obtain⟨y,hy,e,a,a',_⟩:=gX.I7 (Kv hs b g) _ x hx;have e':x={y with n:=x.n}:=e
  have h1:=Gh.1 (aX.1 (dR.1 hs.form).2.2.2.1 y hy);change 1<=x.n at a
  change x.n<=y.n at a'
  rw[e'];exact Gh.2 ⟨h1.1,h1.2.1,h1.2.2.1,h1.2.2.2.1,a,by show x.n<=200;omega⟩
theorem jau(h:lI p s){t:Int}(h0:0<=t)(h1:t<=bound s b g):bound (wM s b g jq t) b g=bound s b g - t:=Oy h.sane h0 h1
theorem DZ{t:Int}{x:dZ}(ho:x.aC.toNat<s.ak.length)(hk:x.aG.toNat<(s.aC x.aC.toNat).aH.length):(yt (wM s b g jq t) b g).is x=(yt s b g).is x:=by
 have e:((wM s b g jq t).aG x.aC.toNat x.aG.toNat).dh=(s.aG x.aC.toNat x.aG.toNat).dh:=by rw[Ef ho hk]
 cases h1:(yt s b g).is x
 ·cases h2:(yt (wM s b g jq t) b g).is x
  ·rfl
  ·rw[ES,e]at h2
   rw[ES.2 h2]at h1
   cases h1
 ·rw[ES]at h1 ⊢
  rw[e];exact h1
end
theorem jcX:∀(l:List yK) (k m:Nat),m<l.length->((textOf (l.take (m+1))).length<=k↔m<whole l k)
 |[],_,_,h=>absurd h (Nat.not_lt_zero _)
 |x::l,k,m,h=>by
  have e:(textOf ((x::l).take (m+1))).length=(OM x).length+(textOf (l.take m)).length:=by
   rw[bC,textOf,kR,aZ];rfl
  rw[e,whole];cases m with
  |zero=>
   have:(textOf (l.take 0)).length=0:=rfl;rw[this];split<;>omega
  |succ m=>
   have ih:=jcX l (k - (OM x).length) m (by simp only[dw]at h;omega)
   split<;>omega
theorem jc4{l:List yK}{k:Nat}(hk:k<l.length):textOf (l.take (k+1))=textOf (l.take k)++OM l[k]:=by
 unfold textOf;rw[dO hk,gy,kR,List.flatMap_nil,iJ]
theorem jbZ:∀(l:List yK),(∀x∈l,ok x)->(textOf l).length<=18*l.length
 |[],_=>au _
 |x::l,h=>by
  have h1:=jbZ l (λy hy=>h y (bP _ hy))
  have h2:=jaK x;have h3:=(h x (dS ..)).2;have e:textOf (x::l)=OM x++textOf l:=kR ..;rw[e,aZ,dw];omega
theorem jc5{l:List yK}{K:Nat}(h:∀x∈l,ok x)(hl:l.length<=24):(qj ((textOf l).take K)).1=l.take (whole l K)/\(qj ((textOf l).take K)).2.2=0:=by
 have h1:=jbZ l h;have h2:((textOf l).take K).length<=(textOf l).length:=by rw[bT];omega
 unfold qj;rw[ay (by omega)]
 exact⟨jcV 60 l K h (by omega),rfl⟩
theorem jc7{p:dA}{l:List yK}{K:Nat}(hz:gQ p=0)(h:∀x∈l,ok x)(hl:l.length<=24):
  sS p ((textOf l).take K)=(wL p (l.take (whole l K)) (begin p),(whole l K:Int),0):=by
 obtain⟨h1,h2⟩:=jc5 (K:=K) h hl;have h3:=jcU l K;unfold sS;rw[ay (λhn=>hn hz),ay (λhn=>hn h2),h1,bT,jS h3]
end Wh
