/- Texts of the claim, joined. -/
import Derived.Test.YtfhfkijmebhgmaaGreatK01
set_option maxHeartbeats 20000000
set_option maxRecDepth 100000
namespace Wh
theorem su{l:List dZ}(h:iD l=true):l.length<=72:=by
 have hr:=(gG.1 h).2;have hf:=(gG.1 h).1;have hp:∀x∈l,0<=fP x/\fP x<72:=λx hx=>by
  have:=(nI.1 (hf x hx)).1;unfold sD at this
  unfold fP;omega
 have hn:(l.map λx=>(fP x).toNat).Nodup:=by
  rw[List.Nodup,nY];refine qN ?_ hr
  intro a b ha hb hab;have h1:=hp a ha;have h2:=hp b hb;omega
 have hs:(l.map λx=>(fP x).toNat) ⊆ List.range 72:=λn hn'=>by
  obtain⟨x,hx,rfl⟩:=kV.1 hn';have:=hp x hx;exact gZ.2 (by omega)
 have:=hn.length_le_of_subset hs;simpa using this
structure o9(p:dA)(s:aJ):Prop where
 shelf:iO p s.on=0
 many:Jd s=true
 form:oQ p s=true
theorem uP{α:Type}{P:α->Bool}{l:List α}(d:α)(h:l.all P=true){k:Nat}(hk:k<l.length):P (l.getD k d)=true:=by
 have e:l.getD k d=l[k]:=by simp[hk]
 rw[e];exact aX.1 h _ (bU hk)
theorem D7{α:Type}{P:α->Bool}{l:List α}(d:α)(h:∀k,k<l.length->P (l.getD k d)=true):l.all P=true:=by
 rw[aX];intro x hx;obtain⟨k,hk,rfl⟩:=aV hx;have:=h k hk;have e:l.getD k d=l[k]:=by simp[hk]
 rwa [e]at this
theorem joD{α:Type}{P:α->Bool}{l:List α}(d:α){k:Nat}(hk:k<l.length)(h:P (l.getD k d)=false):l.all P=false:=by
 cases ha:l.all P
 ·rfl
 ·rw[uP d ha hk]at h;cases h
theorem FP{α:Type}(P:α->Bool)(l:List α):(l.any λx=>!P x)= !(l.all P):=by
 induction l with
 |nil=>rfl
 |cons x l ih=>rw[zk,zl,ih,DX]
theorem CX{s:aJ}:Jd s=true↔s.ak.length<=4/\s.aF.length<=8/\s.ak.all (λo=>cZ o.aH.length 1 3)=true:=by
 unfold Jd;simp only[bG,bD,xJ]
theorem dR{p:dA}{s:aJ}:oQ p s=true↔s.ak.all (wW p)=true/\iD s.aA=true/\s.aA.all (yQ p s)=true/\s.aF.all (sO p)=true/\
  uN p s.gY 0=true/\uN p s.O 0=true/\uN p s.bg (-1048576)=true:=by
 unfold oQ;simp only[bG,xJ]
theorem rP{p:dA}{x:Line}:tV p x=true↔(0<=x.dh/\x.dh<p.aP.length)/\(1<=x.iw/\x.iw<=200)/\(0<=x.oh/\x.oh<=x.iw)/\(0<=x.dP/\x.dP<=x.iw):=by
 unfold tV;simp only[bG,dV,vN,xJ]
theorem Gh{p:dA}{x:Move}:sO p x=true↔(0<=x.dh/\x.dh<p.aP.length)/\(0<=x.src/\x.src<p.bQ.length)/\(0<=x.dst/\x.dst<p.bQ.length)/\x.src≠x.dst/\1<=x.n/\x.n<=200:=by
 unfold sO;simp only[bG,dV,vN,yT,xJ,bD]
theorem EM{p:dA}{o:Order}:wW p o=true↔(0<=o.dW/\o.dW<=2)/\o.aH.all (tV p)=true:=by
 unfold wW;simp only[bG,dV]
theorem qU{p:dA}{l:List Int}{lo:Int}:uN p l lo=true↔l.length=p.aP.length/\l.all (cZ · lo 1048576)=true:=by
 unfold uN;simp only[bG,bD]
theorem nZ{p:dA}{s:aJ}{h:dZ}:yQ p s h=true↔h.aC<s.ak.length/\h.aG<(s.aC h.aC.toNat).aH.length/\h.bin<p.bQ.length:=by
 unfold yQ;simp only[bG,bD,xJ]
namespace o9
variable {p:dA} {s:aJ} (h:o9 p s)
include h
theorem plan:gQ p=0:=(jZ.1 h.shelf).1
theorem qH:s.ak.length<=4:=(CX.1 h.many).1
theorem vJ:s.aF.length<=8:=(CX.1 h.many).2.1
theorem tN{o:Nat}(ho:o<s.ak.length):1<=(s.aC o).aH.length/\(s.aC o).aH.length<=3:=by
 have:=uP Gw (CX.1 h.many).2.2 ho;have:=dV.1 this;unfold aJ.aC aU;omega
theorem wW{o:Nat}(ho:o<s.ak.length):Wh.wW p (s.aC o)=true:=uP Gw (dR.1 h.form).1 ho
theorem dW{o:Nat}(ho:o<s.ak.length):0<=(s.aC o).dW/\(s.aC o).dW<=2:=(EM.1 (h.wW ho)).1
theorem aG{o k:Nat}(ho:o<s.ak.length)(hk:k<(s.aC o).aH.length):
  (0<=(s.aG o k).dh/\(s.aG o k).dh<p.aP.length)/\(1<=(s.aG o k).iw/\(s.aG o k).iw<=200)/\(0<=(s.aG o k).oh/\(s.aG o k).oh<=(s.aG o k).iw)/\(0<=(s.aG o k).dP/\(s.aG o k).dP<=(s.aG o k).iw):=
 rP.1 (uP Lc (EM.1 (h.wW ho)).2 hk)
theorem aA:iD s.aA=true:=(dR.1 h.form).2.1
theorem yR{k:Nat}(hk:k<s.aA.length):(0<=(hold s.aA k).aC/\(hold s.aA k).aC<s.ak.length)/\(0<=(hold s.aA k).aG/\(hold s.aA k).aG<(s.aC (hold s.aA k).aC.toNat).aH.length)/\
  (0<=(hold s.aA k).bin/\(hold s.aA k).bin<p.bQ.length)/\(1<=(hold s.aA k).n/\(hold s.aA k).n<=200):=by
 have h1:=Hy h.aA hk;have h2:=jfS h.aA hk;have h3:=nZ.1 (uP Xb (dR.1 h.form).2.2.1 hk);unfold sD at h1
 change(hold s.aA k).aC<_/\_ at h3
 obtain⟨a,b,c⟩:=h3;exact⟨⟨h1.1.1,a⟩,⟨h1.2.1.1,b⟩,⟨h1.2.2.1,c⟩,h2⟩
theorem bH{k:Nat}(hk:k<s.aF.length):(0<=(bH s.aF k).dh/\(bH s.aF k).dh<p.aP.length)/\(0<=(Wh.bH s.aF k).src/\(Wh.bH s.aF k).src<p.bQ.length)/\
  (0<=(Wh.bH s.aF k).dst/\(Wh.bH s.aF k).dst<p.bQ.length)/\(Wh.bH s.aF k).src≠(Wh.bH s.aF k).dst/\1<=(Wh.bH s.aF k).n/\(Wh.bH s.aF k).n<=200:=
 Gh.1 (uP Ox (dR.1 h.form).2.2.2.1 hk)
theorem gY:s.gY.length=p.aP.length/\∀ {g},g<p.aP.length->0<=bI s.gY g/\bI s.gY g<=1048576:=by
 obtain⟨h1,h2⟩:=qU.1 (dR.1 h.form).2.2.2.2.1;exact⟨h1,λhg=>dV.1 (uP 0 h2 (by omega))⟩
theorem O:s.O.length=p.aP.length/\∀ {g},g<p.aP.length->0<=bI s.O g/\bI s.O g<=1048576:=by
 obtain⟨h1,h2⟩:=qU.1 (dR.1 h.form).2.2.2.2.2.1;exact⟨h1,λhg=>dV.1 (uP 0 h2 (by omega))⟩
theorem bg:s.bg.length=p.aP.length/\∀ {g},g<p.aP.length-> -1048576<=bI s.bg g/\bI s.bg g<=1048576:=by
 obtain⟨h1,h2⟩:=qU.1 (dR.1 h.form).2.2.2.2.2.2;exact⟨h1,λhg=>dV.1 (uP 0 h2 (by omega))⟩
theorem tY:s.on.length=p.bQ.length:=OW h.shelf
theorem rowLen{b:Nat}(hb:b<p.bQ.length):(fO s.on b).length=p.aP.length:=OV h.shelf (by rw[h.tY];exact hb)
theorem cell{b g:Nat}(hb:b<p.bQ.length)(hg:g<p.aP.length):0<=cell s.on b g/\Wh.cell s.on b g<=200:=Gf h.shelf (by rw[h.tY];exact hb) hg
theorem counts:1<=p.bQ.length/\p.bQ.length<=6/\1<=p.aP.length/\p.aP.length<=3:=pJ h.plan
end o9
theorem Ll{p:dA}{s:aJ}(h:iO p s.on≠0):aQ p s=iO p s.on:=by unfold aQ;rw[aB h]
theorem yZ{p:dA}{s:aJ}(h:iO p s.on=0)(h2:Jd s=false):aQ p s=2:=by
 unfold aQ;rw[ay (λhn=>hn h),h2];rfl
theorem Nc{p:dA}{s:aJ}(h:iO p s.on=0)(h2:Jd s=true)(h3:oQ p s=false):aQ p s=1:=by
 unfold aQ;rw[ay (λhn=>hn h),h2,h3];rfl
theorem OC{p:dA}{s:aJ}(h:o9 p s)(h4:Eu p s=false):aQ p s=7:=by
 unfold aQ;rw[ay (λhn=>hn h.shelf),h.many,h.form,h4];rfl
theorem KF{p:dA}{s:aJ}(h:o9 p s)(h4:Eu p s=true):aQ p s=0:=by
 unfold aQ;rw[ay (λhn=>hn h.shelf),h.many,h.form,h4];rfl
theorem kM{p:dA}{s:aJ}:aQ p s=0↔o9 p s/\Eu p s=true:=by
 constructor
 ·intro h;unfold aQ at h
  split at h
  ·rename_i h1;exact absurd h h1
  ·rename_i h1
   cases h2:Jd s
   ·rw[h2]at h;simp at h
   ·cases h3:oQ p s
    ·rw[h2,h3]at h;simp at h
    ·cases h4:Eu p s
     ·rw[h2,h3,h4]at h;simp at h
     ·exact⟨⟨by simpa using h1,h2,h3⟩,rfl⟩
 ·rintro⟨h,h4⟩;exact KF h h4
def MC(s:aJ)(b g:Int)(k:Nat):Int:=((s.aA.take k).map (wX s b g)).sum
def FD(l:List Move)(b g:Int)(k:Nat):Int:=((l.take k).map (Aj b g)).sum
def FI(l:List Move)(b g:Int)(k:Nat):Int:=((l.take k).map (toN b g)).sum
theorem Vg{α:Type}(f:α->Int)(l:List α)(d:α){k:Nat}(hk:k<l.length):((l.take (k+1)).map f).sum=((l.take k).map f).sum+f (l.getD k d):=by
 rw[dO hk,fJ,ug];simp[hk]
theorem TU{s:aJ}{b g:Int}{k:Nat}(hk:k<s.aA.length):MC s b g (k+1)=MC s b g k+wX s b g (hold s.aA k):=Vg _ _ Xb hk
theorem RH{l:List Move}{b g:Int}{k:Nat}(hk:k<l.length):FD l b g (k+1)=FD l b g k+Aj b g (bH l k):=Vg _ _ Ox hk
theorem Qc{l:List Move}{b g:Int}{k:Nat}(hk:k<l.length):FI l b g (k+1)=FI l b g k+toN b g (bH l k):=Vg _ _ Ox hk
theorem Gq(s:aJ)(b g:Int):MC s b g s.aA.length=pK s b g:=by unfold MC pK;rw[fG]
theorem JZ(l:List Move)(b g:Int):FD l b g l.length=lZ l b g:=by unfold FD lZ;rw[fG]
theorem MP(l:List Move)(b g:Int):FI l b g l.length=Lh l b g:=by unfold FI Lh;rw[fG]
theorem Fp{l:List Int}{m:Int}(h:∀x∈l,0<=x/\x<=m):0<=l.sum/\l.sum<=l.length*m:=by
 induction l with
 |nil=>simp
 |cons x l ih=>
  have h1:=h x (by simp)
  have h2:=ih (λy hy=>h y (by simp[hy]))
  rw[iI,dw,Int.natCast_add,xW];omega
theorem DF{p:dA}{s:aJ}(h:o9 p s)(b g:Int)(k:Nat):0<=MC s b g k/\MC s b g k<=14400:=by
 have h72:=su h.aA;have hr:=Fp (l:=(s.aA.take k).map (wX s b g)) (m:=200) (λx hx=>by
  obtain⟨y,hy,rfl⟩:=kV.1 hx;obtain⟨i,hi,rfl⟩:=aV (tq hy);have:=jfS h.aA hi;rw[iL hi]at this
  unfold wX;split<;>omega)
 rw[fU,bT]at hr
 unfold MC;omega
theorem GL{p:dA}{s:aJ}(h:o9 p s)(b g:Int)(k:Nat):0<=FD s.aF b g k/\FD s.aF b g k<=1600:=by
 have h8:=h.vJ;have hr:=Fp (l:=(s.aF.take k).map (Aj b g)) (m:=200) (λx hx=>by
  obtain⟨y,hy,rfl⟩:=kV.1 hx;obtain⟨i,hi,rfl⟩:=aV (tq hy);have:=h.bH hi;rw[Wh.pI hi]at this
  unfold Aj;split<;>omega)
 rw[fU,bT]at hr
 unfold FD;omega
theorem Ju{p:dA}{s:aJ}(h:o9 p s)(b g:Int)(k:Nat):0<=FI s.aF b g k/\FI s.aF b g k<=1600:=by
 have h8:=h.vJ;have hr:=Fp (l:=(s.aF.take k).map (toN b g)) (m:=200) (λx hx=>by
  obtain⟨y,hy,rfl⟩:=kV.1 hx;obtain⟨i,hi,rfl⟩:=aV (tq hy);have:=h.bH hi;rw[Wh.pI hi]at this
  unfold toN;split<;>omega)
 rw[fU,bT]at hr
 unfold FI;omega
theorem EY{p:dA}{s:aJ}(h:o9 p s)(b g:Int):0<=bound s b g/\bound s b g<=16000:=by
 have h1:=DF h b g s.aA.length;have h2:=GL h b g s.aF.length;rw[Gq]at h1
 rw[JZ]at h2
 unfold bound;omega
theorem xC{p:dA}{s:aJ}(h:o9 p s)(b g:Int):0<=iq s b g/\iq s b g<=1600:=by
 have h2:=Ju h b g s.aF.length;rw[MP]at h2
 exact h2
theorem KI{n:Nat}{P:Nat->Bool}:(List.range n).all P=true↔∀k,k<n->P k=true:=by
 rw[aX];exact⟨λh k hk=>h k (gZ.2 hk),λh k hk=>h k (gZ.1 hk)⟩
theorem jbb{n:Nat}{P:Nat->Bool}{k:Nat}(hk:k<n)(h:P k=false):(List.range n).all P=false:=by
 cases ha:(List.range n).all P
 ·rfl
 ·rw[KI.1 ha k hk]at h;cases h
theorem Qk{p:dA}{s:aJ}:Eu p s=true↔(∀g,g<p.aP.length->wZ p s g=true)/\∀o,o<s.ak.length->wI s o=true:=by
 unfold Eu;rw[bG,KI,KI]
theorem JH{p:dA}{s:aJ}{g:Nat}(hg:g<p.aP.length)(h:wZ p s g=false):Eu p s=false:=by
 unfold Eu;rw[jbb hg h,uY]
theorem qF{p:dA}{s:aJ}{o:Nat}(ho:o<s.ak.length)(h:wI s o=false):Eu p s=false:=by
 unfold Eu;rw[jbb ho h,BN]
theorem yA{p:dA}{s:aJ}{g:Nat}:wZ p s g=true↔BU s.on g=bI s.gY g - bI s.O g+bI s.bg g/\∀b:Nat,b<p.bQ.length->bound s b g<=cell s.on b g:=by
 unfold wZ;rw[bG,KI];simp
theorem Oi{p:dA}{s:aJ}{g:Nat}(h:BU s.on g≠bI s.gY g - bI s.O g+bI s.bg g):wZ p s g=false:=by
 cases hq:wZ p s g
 ·rfl
 ·exact absurd (yA.1 hq).1 h
theorem Oj{p:dA}{s:aJ}{g b:Nat}(hb:b<p.bQ.length)(h:cell s.on b g<bound s b g):wZ p s g=false:=by
 cases hq:wZ p s g
 ·rfl
 ·have:=(yA.1 hq).2 b hb;omega
theorem sJ{s:aJ}{o:Nat}:wI s o=true↔¬((s.aC o).dW=1/\oZ (s.aC o)=true)/\∀k,k<(s.aC o).aH.length->mM s o k=true:=by
 unfold wI;rw[bG,KI];by_cases h1:(s.aC o).dW=1<;>simp[h1]
theorem MX{s:aJ}{o:Nat}(h:(s.aC o).dW=1)(h2:oZ (s.aC o)=true):wI s o=false:=by
 cases hq:wI s o
 ·rfl
 ·exact absurd ⟨h,h2⟩ (sJ.1 hq).1
theorem nS{s:aJ}{o k:Nat}(hk:k<(s.aC o).aH.length)(h:mM s o k=false):wI s o=false:=by
 cases hq:wI s o
 ·rfl
 ·rw[(sJ.1 hq).2 k hk]at h
  cases h
theorem uz{s:aJ}{o k:Nat}:mM s o k=true↔(s.aG o k).oh+(s.aG o k).dP+kept s.aA o k=(if(s.aC o).dW=0 then 0 else(s.aG o k).iw)/\¬((s.aC o).dW=2/\0<kept s.aA o k):=by
 unfold mM;by_cases h1:(s.aC o).dW=2<;>simp[h1]
theorem Xq{p:dA}{s:aJ}(h:o9 p s){o:Nat}(ho:o<s.ak.length):((s.aC o).aH.any λx=>decide (x.oh<x.iw))= !(oZ (s.aC o)):=by
 have hl:∀x∈(s.aC o).aH,x.oh<=x.iw:=λx hx=>by
  obtain⟨k,hk,rfl⟩:=aV hx;have:=(h.aG ho hk).2.2.1.2;unfold aJ.aG at this
  rwa [qw hk]at this
 unfold oZ;rw[<- FP];generalize (s.aC o).aH=l at hl
 induction l with
 |nil=>rfl
 |cons x l ih=>
  rw[zk,zk,ih (λy hy=>hl y (by simp[hy]))]
  congr 1
  have:=hl x (by simp)
  rw[uj];simp
  omega
theorem yE{o:Order}:oZ o=true↔∀k,k<o.aH.length->(gK o.aH k).oh=(gK o.aH k).iw:=by
 unfold oZ;constructor
 ·intro h k hk;have:=uP Lc h hk;simpa[gK]using this
 ·intro h;refine D7 Lc λk hk=>?_
  have:=h k hk;unfold gK at this
  simpa using this
theorem jdb{p:dA}(l:List Int)(lo:Int)(hn:0<p.aP.length):(l.length≠p.aP.length/\uN p l lo=false)\/(l.length=p.aP.length/\CY l<lo/\uN p l lo=false)\/
  (l.length=p.aP.length/\lo<=CY l/\1048576<yx l/\uN p l lo=false)\/(l.length=p.aP.length/\lo<=CY l/\yx l<=1048576/\uN p l lo=true):=by
 by_cases h1:l.length=p.aP.length
 ·have hp:0<l.length:=by omega
  have hlo:lo<=CY l↔∀j,j<l.length->lo<=bI l j:=by
   unfold CY;rw[NM];exact⟨λh j hj=>h j (by omega),λh j hj=>h j (by omega)⟩
  have hhi:yx l<=1048576↔∀j,j<l.length->bI l j<=1048576:=by
   unfold yx;rw[NJ];exact⟨λh j hj=>h j (by omega),λh j hj=>h j (by omega)⟩
  have hs:uN p l lo=true↔lo<=CY l/\yx l<=1048576:=by
   rw[qU,hlo,hhi];constructor
   ·rintro⟨_,h⟩;exact⟨λj hj=>(dV.1 (uP 0 h hj)).1,λj hj=>(dV.1 (uP 0 h hj)).2⟩
   ·rintro⟨h2,h3⟩;exact⟨h1,D7 0 λj hj=>dV.2 ⟨h2 j hj,h3 j hj⟩⟩
  cases hq:uN p l lo
  ·rw[hq]at hs
   simp only[iE,vg]at hs
   simp only[h1,mD,mg,ne_eq,vZ,wY,reduceCtorEq,qm,ny];omega
  ·rw[hq]at hs
   simp only[uG]at hs
   simp only[h1,mD,mg,ne_eq,vZ,wY,reduceCtorEq,qm];omega
 ·refine .inl ⟨h1,?_⟩
  unfold uN;rw[fA h1,uY]
theorem jbH(x:dZ)(l:List dZ)(o ln b:Int):bW (x::l) o ln b=if x.aC=o/\x.aG=ln/\x.bin=b then x.n else bW l o ln b:=by
 unfold bW;rw[AA]
 by_cases hk:x.aC=o/\x.aG=ln/\x.bin=b
 ·rw[aB hk,CQ.2 hk]
 ·rw[ay hk,show uS o ln b x=false by rw[<- nM,CQ];exact hk]
theorem J5{α:Type}{p:α->Bool}{l:List α}(h:∀x∈l,p x=false):l.filter p=[]:=rU.2 λx hx=>by rw[h x hx];simp
theorem jfG{h:dZ}(hk:sD h.aC h.aG h.bin)(F:dZ->Int)(f:Int->Int->Int->Int)(hF:∀x,F x=f x.aC x.aG x.bin*x.n):∀ {l:List dZ},fine l->JJ l->
  (l.map F).sum=((l.filter λx=>decide (fP x<fP h)).map F).sum+f h.aC h.aG h.bin*bW l h.aC h.aG h.bin+((l.filter λx=>decide (fP h<fP x)).map F).sum:=by
 intro l;induction l with
 |nil=>intro _ _;simp[bW]
 |cons x l ih=>
  intro hf hr;have hf':fine l:=λh hm=>hf h (bP _ hm)
  have hr':=rJ.1 hr;have ih':=ih hf' hr'.2;have hx:=(nI.1 (hf x (dS ..))).1;rw[dn,iI,jbH];rcases wz (fP x) (fP h)with h1|h1|h1
  ·have hne:¬(x.aC=h.aC/\x.aG=h.aG/\x.bin=h.bin):=λhe=>by
    rw[EJ he]at h1;omega
   rw[ay hne,jr (by simpa using h1),lF (by simp;omega),dn,iI,ih']
   omega
  ·obtain⟨e1,e2,e3⟩:=YA hx hk h1;have hlt:(l.filter λx=>decide (fP x<fP h))=[]:=J5 λy hy=>by
    have:=hr'.1 y hy;simp;omega
   have h0:bW l h.aC h.aG h.bin=0:=Dc λy hy he=>by
    have h2:=hr'.1 y hy;rw[EJ he]at h2
    omega
   rw[aB ⟨e1,e2,e3⟩,lF (by simp;omega),lF (by simp;omega),ih',hlt,h0,hF x,e1,e2,e3]
   simp
  ·have hne:¬(x.aC=h.aC/\x.aG=h.aG/\x.bin=h.bin):=λhe=>by
    rw[EJ he]at h1;omega
   have hlt:(l.filter λx=>decide (fP x<fP h))=[]:=J5 λy hy=>by
    have:=hr'.1 y hy;simp;omega
   rw[ay hne,lF (by simp;omega),jr (by simpa using h1),dn,iI,ih',hlt]
   simp
   omega
theorem jgU{l:List dZ}{h:dZ}(hl:iD l=true)(hk:sD h.aC h.aG h.bin)(F:dZ->Int)(f:Int->Int->Int->Int)(hF:∀x,F x=f x.aC x.aG x.bin*x.n):
  ((jH l h).map F).sum=(l.map F).sum+f h.aC h.aG h.bin*(h.n - bW l h.aC h.aG h.bin):=by
 obtain⟨hf,hr⟩:=gG.1 hl;rw[jfG hk F f hF hf hr];unfold jH;rw[fJ,fJ,ug,ug,Int.mul_sub];by_cases h0:h.n=0
 ·rw[aB h0,h0];simp
  omega
 ·rw[ay h0];simp only[dn,jL,iI,List.sum_nil,hF h];omega
theorem EN{l:List Order}{o:Nat}(ho:o<l.length)(x:Order)(o':Nat):aU (l.set o x) o'=if o'=o then x else aU l o':=by
 unfold aU;by_cases h:o'=o
 ·subst h;simp[ho]
 ·rw[ay h];simp[zO h]
theorem jdF{l:List Line}{k:Nat}(hk:k<l.length)(x:Line)(k':Nat):gK (l.set k x) k'=if k'=k then x else gK l k':=by
 unfold gK;by_cases h:k'=k
 ·subst h;simp[hk]
 ·rw[ay h];simp[zO h]
theorem GK{s:aJ}{o:Nat}(ho:o<s.ak.length)(k:Nat)(y:Line)(o':Nat):(s.lY o k y).aC o'=if o'=o then {s.aC o with aH:=(s.aC o).aH.set k y}else s.aC o':=EN ho _ _
theorem LZ{s:aJ}{o k:Nat}(ho:o<s.ak.length)(hk:k<(s.aC o).aH.length)(y:Line)(o' k':Nat):(s.lY o k y).aG o' k'=if o'=o/\k'=k then y else s.aG o' k':=by
 unfold aJ.aG;rw[GK ho];by_cases h:o'=o
 ·subst h;rw[aB rfl];simp only[mg];exact jdF hk _ _
 ·rw[ay h,ay (λh'=>h h'.1)]
theorem Jb(s:aJ)(o k:Nat)(y:Line):(s.lY o k y).ak.length=s.ak.length:=by unfold aJ.lY;simp
theorem Ro{s:aJ}{o:Nat}(ho:o<s.ak.length)(k:Nat)(y:Line)(o':Nat):((s.lY o k y).aC o').dW=(s.aC o').dW:=by
 rw[GK ho];split
 ·rename_i h;rw[h]
 ·rfl
theorem Kw{s:aJ}{o:Nat}(ho:o<s.ak.length)(k:Nat)(y:Line)(o':Nat):((s.lY o k y).aC o').aH.length=(s.aC o').aH.length:=by
 rw[GK ho];split
 ·rename_i h;rw[h];simp
 ·rfl
theorem MF{s t:aJ}(hh:t.aA=s.aA)(hg:∀o k,(t.aG o k).dh=(s.aG o k).dh)(b g:Int):pK t b g=pK s b g:=by
 unfold pK;rw[hh];congr 1
 apply oM;intro h _;unfold wX;rw[hg]
theorem TV{s:aJ}{h:dZ}(hl:iD s.aA=true)(hk:sD h.aC h.aG h.bin)(b g:Int):
  pK {s with aA:=jH s.aA h} b g=pK s b g+if h.bin=b/\(s.aG h.aC.toNat h.aG.toNat).dh=g then h.n - bW s.aA h.aC h.aG h.bin else 0:=by
 have:=jgU hl hk (wX s b g) (λo ln b'=>if b'=b/\(s.aG o.toNat ln.toNat).dh=g then 1 else 0) (λx=>by
  unfold wX;split<;>simp)
 have e:pK {s with aA:=jH s.aA h} b g=((jH s.aA h).map (wX s b g)).sum:=rfl
 rw[e,this];congr 1
 split<;>simp
structure lI(p:dA)(s:aJ):Prop where
 sane:o9 p s
 dh:∀g,g<p.aP.length->wZ p s g=true
 aG:∀o k,o<s.ak.length->k<(s.aC o).aH.length->mM s o k=true
theorem oU{p:dA}{s:aJ}:aQ p s=0↔lI p s/\∀o,o<s.ak.length->¬((s.aC o).dW=1/\oZ (s.aC o)=true):=by
 rw[kM,Qk];constructor
 ·rintro⟨h1,h2,h3⟩;exact⟨⟨h1,h2,λo k ho hk=>(sJ.1 (h3 o ho)).2 k hk⟩,λo ho=>(sJ.1 (h3 o ho)).1⟩
 ·rintro⟨⟨h1,h2,h3⟩,h4⟩;exact⟨h1,h2,λo ho=>sJ.2 ⟨h4 o ho,λk hk=>h3 o k ho hk⟩⟩
theorem jf{p:dA}{s:aJ}(h:aQ p s=0):lI p s:=(oU.1 h).1
theorem jhL{s:aJ}{o:Nat}{x:Line}(hx:x∈(s.aC o).aH):∃k,k<(s.aC o).aH.length/\s.aG o k=x:=by
 obtain⟨k,hk,rfl⟩:=aV hx;exact⟨k,hk,by unfold aJ.aG;rw[qw hk]⟩
theorem o9.of{p:dA}{s:aJ}(h1:iO p s.on=0)(h2:s.ak.length<=4)(h3:s.aF.length<=8)(h4:∀o,o<s.ak.length->(1<=(s.aC o).aH.length/\(s.aC o).aH.length<=3)/\0<=(s.aC o).dW/\(s.aC o).dW<=2)
  (h5:∀o k,o<s.ak.length->k<(s.aC o).aH.length->tV p (s.aG o k)=true) (h6:iD s.aA=true) (h7:∀x∈s.aA,yQ p s x=true) (h8:∀x∈s.aF,sO p x=true)
  (h9:uN p s.gY 0=true) (h10:uN p s.O 0=true) (h11:uN p s.bg (-1048576)=true):o9 p s:=by
 refine⟨h1,CX.2 ⟨h2,h3,D7 Gw λo ho=>dV.2 ?_⟩,dR.2 ⟨D7 Gw λo ho=>EM.2 ⟨(h4 o ho).2,aX.2 λx hx=>?_⟩,h6,aX.2 h7,aX.2 h8,h9,h10,h11⟩⟩
 ·have:=(h4 o ho).1;unfold aJ.aC aU at this
  omega
 ·obtain⟨k,hk,rfl⟩:=jhL (s:=s) (o:=o) hx;exact h5 o k ho hk
theorem lI.of{p:dA}{s:aJ}(h:o9 p s)(h1:∀g,g<p.aP.length->BU s.on g=bI s.gY g - bI s.O g+bI s.bg g)(h2:∀b g:Nat,b<p.bQ.length->g<p.aP.length->bound s b g<=cell s.on b g)
  (h3:∀o k,o<s.ak.length->k<(s.aC o).aH.length->mM s o k=true):lI p s:=
 ⟨h,λg hg=>yA.2 ⟨h1 g hg,λb hb=>h2 b g hb hg⟩,h3⟩
namespace lI
variable {p:dA} {s:aJ} (h:lI p s)
include h
theorem sum{g:Nat}(hg:g<p.aP.length):BU s.on g=bI s.gY g - bI s.O g+bI s.bg g:=(yA.1 (h.dh g hg)).1
theorem bnd{b g:Nat}(hb:b<p.bQ.length)(hg:g<p.aP.length):bound s b g<=cell s.on b g:=(yA.1 (h.dh g hg)).2 b hb
theorem AU{o k:Nat}(ho:o<s.ak.length)(hk:k<(s.aC o).aH.length):(s.aG o k).oh+(s.aG o k).dP+kept s.aA o k=(if(s.aC o).dW=0 then 0 else(s.aG o k).iw)/\¬((s.aC o).dW=2/\0<kept s.aA o k):=uz.1 (h.aG o k ho hk)
theorem OL{b g:Nat}(hb:b<p.bQ.length)(hg:g<p.aP.length):0<=lU s b g/\lU s b g<=cell s.on b g:=by
 have h1:=h.bnd hb hg;have h2:=EY h.sane b g;unfold lU;simp only[bZ];omega
end lI
section
variable {p:dA} {s:aJ} {o k b:Nat} {m:Int}
theorem KL{l:List dZ}(hl:iD l=true)(o ln b:Int):0<=bW l o ln b:=(Fv (gG.1 hl).1 (gG.1 hl).2 o ln b).1
theorem TR(hs:o9 p s)(o k b:Int):bW s.aA o k b<=pK s b (s.aG o.toNat k.toNat).dh:=by
 by_cases h0:bW s.aA o k b=0
 ·rw[h0];have:=DF hs b (s.aG o.toNat k.toNat).dh s.aA.length;rw[Gq]at this
  omega
 ·obtain⟨h1,h2⟩:=gG.1 hs.aA;obtain⟨hk,hm⟩:=Dh h1 h2 h0;have h3:∀l:List dZ,(∀x∈l,1<=x.n)->∀x∈l,wX s b (s.aG o.toNat k.toNat).dh x<=(l.map (wX s b (s.aG o.toNat k.toNat).dh)).sum/\0<=(l.map (wX s b (s.aG o.toNat k.toNat).dh)).sum:=by
   intro l;induction l with
   |nil=>simp
   |cons y l ih=>
    intro hn x hx;have hy:=hn y (by simp)
    have hyn:0<=wX s b (s.aG o.toNat k.toNat).dh y:=by unfold wX;split<;>omega
    have hl0:0<=(l.map (wX s b (s.aG o.toNat k.toNat).dh)).sum:=by
     cases l with
     |nil=>simp
     |cons z l=>exact(ih (λx hx=>hn x (by simp at hx ⊢;exact .inr hx)) z (by simp)).2
    rw[dn,iI];rcases jM.1 hx with rfl|hx
    ·exact⟨by omega,by omega⟩
    ·have:=ih (λx hx=>hn x (bP _ hx)) x hx
     omega
  have h4:=(h3 s.aA (λx hx=>(nI.1 (h1 x hx)).2.1) _ hm).1
  have h5:wX s b (s.aG o.toNat k.toNat).dh ⟨o,k,b,bW s.aA o k b⟩=bW s.aA o k b:=by
   unfold wX;exact aB ⟨rfl,rfl⟩
  rw[h5]at h4
  exact h4
theorem yB(hs:o9 p s)(b g:Int):0<=lZ s.aF b g:=by
 have:=GL hs b g s.aF.length;rw[JZ]at this
 exact this.1
theorem Jg(hs:o9 p s)(ho:o<s.ak.length)(hk:k<(s.aC o).aH.length)(hb:b<p.bQ.length):sD o k b:=by
 have h4:=hs.qH;have h3:=hs.tN ho;have hc:=hs.counts;unfold sD;omega
structure Fits(p:dA)(s:aJ)(o k b:Nat)(m:Int):Prop where
 ho:o<s.ak.length
 hk:k<(s.aC o).aH.length
 hb:b<p.bQ.length
 dW:(s.aC o).dW=1
 m1:1<=m
 av:m<=lU s b (s.aG o k).dh
 dP:m<=(s.aG o k).dP
variable (h:lI p s) (f:Fits p s o k b m)
include h f
theorem Y0:((s.aG o k).dh.toNat:Int)=(s.aG o k).dh/\(s.aG o k).dh.toNat<p.aP.length:=by
 have:=(h.sane.aG f.ho f.hk).1;omega
theorem La:0<=bW s.aA o k b/\bW s.aA o k b+m<=200:=by
 obtain⟨e,hg⟩:=Y0 h f;have h1:=TR h.sane o k b;have h2:=yB h.sane b (s.aG o k).dh;have h3:=f.av;have h4:=h.sane.cell f.hb hg;unfold lU bound at h3
 simp only[bZ]at h1 h3
 exact⟨KL h.sane.aA _ _ _,by omega⟩
theorem XY:iD (tZ s o k b m).aA=true:=by
 have:=La h f;have hm:=f.m1;exact UJ h.sane.aA (Jg h.sane f.ho f.hk f.hb) ⟨by show 0<=bW s.aA o k b+m;omega,this.2⟩
theorem Me(o' k' b':Int):bW (tZ s o k b m).aA o' k' b'=bW s.aA o' k' b'+if(o:Int)=o'/\(k:Int)=k'/\(b:Int)=b' then m else 0:=by
 have:=La h f;have hm:=f.m1;have e:=ER (h:=⟨o,k,b,bW s.aA o k b+m⟩) h.sane.aA (Jg h.sane f.ho f.hk f.hb) ⟨by show 0<=bW s.aA o k b+m;omega,this.2⟩ o' k' b'
 refine e.trans ?_
 simp only;split
 ·rename_i hq
  obtain⟨rfl,rfl,rfl⟩:=hq;rfl
 ·omega
theorem Ws(o' k':Int):kept (tZ s o k b m).aA o' k'=kept s.aA o' k'+if(o:Int)=o'/\(k:Int)=k' then m else 0:=by
 have:=La h f;have hm:=f.m1;have e:=YP (h:=⟨o,k,b,bW s.aA o k b+m⟩) h.sane.aA (Jg h.sane f.ho f.hk f.hb) ⟨by show 0<=bW s.aA o k b+m;omega,this.2⟩ o' k'
 refine e.trans ?_
 simp only;congr 1
 split<;>omega
omit h in
theorem Md(o' k':Nat):(tZ s o k b m).aG o' k'=if o'=o/\k'=k then {s.aG o k with dP:=(s.aG o k).dP - m}else s.aG o' k':=
 LZ (s:={s with aA:=jH s.aA ⟨o,k,b,bW s.aA o k b+m⟩}) f.ho f.hk _ o' k'
omit h in
theorem Qw(o':Nat):((tZ s o k b m).aC o').dW=(s.aC o').dW:=Ro (s:={s with aA:=jH s.aA ⟨o,k,b,bW s.aA o k b+m⟩}) f.ho _ _ _
omit h in
theorem He(o':Nat):((tZ s o k b m).aC o').aH.length=(s.aC o').aH.length:=Kw (s:={s with aA:=jH s.aA ⟨o,k,b,bW s.aA o k b+m⟩}) f.ho _ _ _
omit h f in
theorem DC:(tZ s o k b m).ak.length=s.ak.length:=Jb _ _ _ _
omit h in
theorem Em(o' k':Nat):((tZ s o k b m).aG o' k').dh=(s.aG o' k').dh/\((tZ s o k b m).aG o' k').iw=(s.aG o' k').iw/\((tZ s o k b m).aG o' k').oh=(s.aG o' k').oh:=by
 rw[Md f];split
 ·rename_i hq
  obtain⟨rfl,rfl⟩:=hq;exact⟨rfl,rfl,rfl⟩
 ·exact⟨rfl,rfl,rfl⟩
theorem Hf(b' g:Int):bound (tZ s o k b m) b' g=bound s b' g+if(b:Int)=b'/\(s.aG o k).dh=g then m else 0:=by
 have e1:pK (tZ s o k b m) b' g=pK {s with aA:=jH s.aA ⟨o,k,b,bW s.aA o k b+m⟩} b' g:=
  MF (s:={s with aA:=jH s.aA ⟨o,k,b,bW s.aA o k b+m⟩}) (t:=tZ s o k b m) rfl (λo' k'=>(Em f o' k').1) b' g
 have e2:=TV (s:=s) (h:=⟨o,k,b,bW s.aA o k b+m⟩) h.sane.aA (Jg h.sane f.ho f.hk f.hb) b' g;unfold bound;rw[e1,e2];simp only[bZ];have:lZ (tZ s o k b m).aF b' g=lZ s.aF b' g:=rfl;rw[this];split<;>omega
theorem jbU(b':Nat)(g:Int):lU (tZ s o k b m) b' g=lU s b' g - if b=b'/\(s.aG o k).dh=g then m else 0:=by
 unfold lU;rw[Hf h f];have:(tZ s o k b m).on=s.on:=rfl;rw[this];simp only[Int.natCast_inj];omega
theorem NY:lI p (tZ s o k b m):=by
 obtain⟨e,hg⟩:=Y0 h f;have hm:=f.m1;have hbk:=f.dP;have hav:=f.av;refine lI.of (o9.of h.sane.shelf (by rw[DC];exact h.sane.qH) h.sane.vJ (λo' ho'=>?_) (λo' k' ho' hk'=>?_) (XY h f) (λx hx=>?_) (λx hx=>aX.1 (dR.1 h.sane.form).2.2.2.1 x hx)
  (dR.1 h.sane.form).2.2.2.2.1 (dR.1 h.sane.form).2.2.2.2.2.1 (dR.1 h.sane.form).2.2.2.2.2.2) (λg hg=>h.sum hg) (λb' g hb' hg'=>?_) (λo' k' ho' hk'=>?_)
 ·rw[DC]at ho'
  rw[He f,Qw f];exact⟨h.sane.tN ho',h.sane.dW ho'⟩
 ·rw[DC]at ho'
  rw[He f]at hk'
  have hl:=h.sane.aG ho' hk';rw[Md f,rP];split
  ·rename_i hq
   obtain⟨rfl,rfl⟩:=hq;simp only;omega
  ·exact hl
 ·have hin:yQ p s x=true:=by
   rcases IZ.1 hx with⟨h1,_⟩|⟨rfl,_⟩
   ·exact aX.1 (dR.1 h.sane.form).2.2.1 x h1
   ·refine nZ.2 ⟨?_,?_,?_⟩
    ·have:=f.ho;show(o:Int)<_;omega
    ·have:=f.hk;show(k:Int)<_;simp only[bZ];omega
    ·have:=f.hb;show(b:Int)<_;omega
  have:=nZ.1 hin;exact nZ.2 ⟨by rw[DC];exact this.1,by rw[He f];exact this.2.1,this.2.2⟩
 ·have h1:=h.bnd hb' hg';rw[Hf h f];have:(tZ s o k b m).on=s.on:=rfl;rw[this];split
  ·rename_i hq
   obtain⟨hq1,hq2⟩:=hq;have hbb:b=b':=by omega
   subst hbb;rw[hq2]at hav
   unfold lU at hav
   simp only[bZ]at hav
   omega
  ·omega
 ·rw[DC]at ho'
  rw[He f]at hk'
  obtain⟨l1,l2⟩:=h.AU ho' hk';obtain⟨g1,g2,g3⟩:=Em (m:=m) f o' k';refine uz.2 ?_
  rw[g2,g3,Ws h f,Qw f];have hb2:((tZ s o k b m).aG o' k').dP=(s.aG o' k').dP - if(o:Int)=o'/\(k:Int)=k' then m else 0:=by
   rw[Md f];by_cases hq:o'=o/\k'=k
   ·obtain⟨rfl,rfl⟩:=hq;simp
   ·rw[ay hq,ay (by omega)]
    omega
  rw[hb2];refine⟨by omega,?_⟩
  rintro⟨hk2,wK⟩;by_cases hq:(o:Int)=o'/\(k:Int)=k'
  ·have:o=o':=by omega
   subst this;have:=f.dW;omega
  ·rw[ay hq]at wK
   exact l2 ⟨hk2,by omega⟩
end
theorem aJ.ext'{a b:aJ}(h1:a.on=b.on)(h2:a.ak=b.ak)(h3:a.aA=b.aA)(h4:a.aF=b.aF)(h5:a.gY=b.gY)(h6:a.O=b.O)(h7:a.bg=b.bg):a=b:=by
 cases a;cases b;simp only at h1 h2 h3 h4 h5 h6 h7;subst h1 h2 h3 h4 h5 h6 h7;rfl
structure Held(p:dA)(s t:aJ)(o k:Nat)(d:Int):Prop where
 right:lI p t
 on:t.on=s.on
 aF:t.aF=s.aF
 gY:t.gY=s.gY
 O:t.O=s.O
 bg:t.bg=s.bg
 ak:t.ak.length=s.ak.length
 dW:∀o',(t.aC o').dW=(s.aC o').dW
 aH:∀o',(t.aC o').aH.length=(s.aC o').aH.length
 aG:∀o' k',(t.aG o' k').dh=(s.aG o' k').dh/\(t.aG o' k').iw=(s.aG o' k').iw/\(t.aG o' k').oh=(s.aG o' k').oh
 dP:∀o' k',(t.aG o' k').dP=(s.aG o' k').dP - if o'=o/\k'=k then d else 0
 bW:∀o' k' b':Int,¬(o'=(o:Int)/\k'=(k:Int))->Wh.bW t.aA o' k' b'=Wh.bW s.aA o' k' b'
 kept:∀o' k':Int,Wh.kept t.aA o' k'=Wh.kept s.aA o' k'+if o'=(o:Int)/\k'=(k:Int)then d else 0
 other:∀b g:Int,g≠(s.aG o k).dh->Wh.bound t b g=Wh.bound s b g
 more:∀b g:Int,Wh.bound s b g<=Wh.bound t b g
 least:∀o' k' b':Int,Wh.bW s.aA o' k' b'<=Wh.bW t.aA o' k' b'
namespace Held
variable {p:dA} {s t u:aJ} {o k:Nat} {d d':Int}
theorem refl(h:lI p s):Held p s s o k 0:=by
 refine⟨h,rfl,rfl,rfl,rfl,rfl,rfl,λ_=>rfl,λ_=>rfl,λ_ _=>⟨rfl,rfl,rfl⟩,λ_ _=>by split<;>omega,λ_ _ _ _=>rfl,λ_ _=>by split<;>omega,λ_ _ _=>rfl,λ_ _=>iM _,λ_ _ _=>iM _⟩
theorem trans(h:Held p s t o k d)(h':Held p t u o k d'):Held p s u o k (d+d'):=by
 refine⟨h'.right,h'.on.trans h.on,h'.aF.trans h.aF,h'.gY.trans h.gY,h'.O.trans h.O,h'.bg.trans h.bg,h'.ak.trans h.ak,λo'=>(h'.dW o').trans (h.dW o'),λo'=>(h'.aH o').trans (h.aH o'),λo' k'=>?_,λo' k'=>?_,λo' k' b' hn=>(h'.bW o' k' b' hn).trans (h.bW o' k' b' hn),λo' k'=>?_,λb g hg=>?_,λb g=>xq (h.more b g) (h'.more b g),λ_ _ _=>xq (h.least _ _ _) (h'.least _ _ _)⟩
 ·obtain⟨a1,a2,a3⟩:=h.aG o' k';obtain⟨b1,b2,b3⟩:=h'.aG o' k';exact⟨b1.trans a1,b2.trans a2,b3.trans a3⟩
 ·rw[h'.dP,h.dP];split<;>omega
 ·rw[h'.kept,h.kept];split<;>omega
 ·rw[h'.other b g (by rw[(h.aG o k).1];exact hg),h.other b g hg]
theorem one{b:Nat}{m:Int}(h:lI p s)(f:Fits p s o k b m):Held p s (tZ s o k b m) o k m:=by
 have hm:=f.m1;refine⟨NY h f,rfl,rfl,rfl,rfl,rfl,DC,λo'=>Qw f o',λo'=>He f o',λo' k'=>Em f o' k',λo' k'=>?_,λo' k' b' hn=>?_,λo' k'=>?_,λb' g hg=>?_,λb' g=>?_,λo' k' b'=>?_⟩
 ·rw[Md f];split
  ·rename_i hq
   obtain⟨rfl,rfl⟩:=hq;rfl
  ·omega
 ·rw[Me h f,ay (by omega),jC]
 ·rw[Ws h f];congr 1
  split<;>split<;>omega
 ·rw[Hf h f,ay (λhq=>hg hq.2.symm),jC]
 ·rw[Hf h f];split<;>omega
 ·rw[Me h f];split<;>omega
theorem cast(h:Held p s t o k d)(e:d=d'):Held p s t o k d':=e ▸ h
theorem jjP(h:Held p s t o k d)(b g:Int):lU t b g<=lU s b g:=by
 have:=h.more b g;unfold lU;rw[h.on];omega
theorem oZ(h:Held p s t o k d){o':Nat}:Wh.oZ (t.aC o')=Wh.oZ (s.aC o'):=by
 rw[uj,yE,yE,h.aH];constructor
 ·intro hh k' hk';have:=hh k' hk';have e:=h.aG o' k';unfold aJ.aG at e
  rw[e.2.1,e.2.2]at this
  exact this
 ·intro hh k' hk';have:=hh k' hk';have e:=h.aG o' k';unfold aJ.aG at e
  rw[e.2.1,e.2.2];exact this
end Held
section
variable {p:dA} {o k:Nat} {but:Int}
structure May(s:aJ)(o k:Nat)(n:Int):Prop where
 ho:o<s.ak.length
 hk:k<(s.aC o).aH.length
 dW:(s.aC o).dW=1
 n0:0<=n
 dP:n<=(s.aG o k).dP
theorem May.held{s t:aJ}{n d:Int}(h:May s o k n)(hh:Held p s t o k d)(hd:d<=n):May t o k (n - d):=by
 refine⟨by rw[hh.ak];exact h.ho,by rw[hh.aH];exact h.hk,by rw[hh.dW];exact h.dW,by omega,?_⟩
 rw[hh.dP,aB ⟨rfl,rfl⟩];have:=h.dP;omega
theorem May.fits{s:aJ}{n:Int}(h:May s o k n){b:Nat}{m:Int}(hb:b<p.bQ.length)(h1:1<=m)(hn:m<=n)(ha:m<=lU s b (s.aG o k).dh):Fits p s o k b m:=
 ⟨h.ho,h.hk,hb,h.dW,h1,ha,by have:=h.dP;omega⟩
theorem May.dh{s:aJ}{n:Int}(h:May s o k n)(hs:lI p s):((s.aG o k).dh.toNat:Int)=(s.aG o k).dh/\(s.aG o k).dh.toNat<p.aP.length:=by
 have:=(hs.sane.aG h.ho h.hk).1;omega
theorem May.lU{s:aJ}{n:Int}(h:May s o k n)(hs:lI p s){b:Nat}(hb:b<p.bQ.length):0<=lU s b (s.aG o k).dh:=by
 obtain⟨e,hg⟩:=h.dh hs;have:=(hs.OL hb hg).1;rwa [e]at this
theorem zn{b:Nat}{r:List Nat}{s:aJ}{n:Int}(h:(b:Int)=but\/min n (lU s b (s.aG o k).dh)<1):uo o k but (b::r) s n=uo o k but r s n:=by
 rw[uo];exact aB h
theorem F8{b:Nat}{r:List Nat}{s:aJ}{n:Int}(h:¬(b:Int)=but)(h1:1<=min n (lU s b (s.aG o k).dh)):
  uo o k but (b::r) s n=uo o k but r (tZ s o k b (min n (lU s b (s.aG o k).dh))) (n - min n (lU s b (s.aG o k).dh)):=by
 rw[uo];exact ay (by omega)
theorem JG:∀ {bs:List Nat} {s:aJ} {n:Int},n<1->uo o k but bs s n=(s,n)
 |[],_,_,_=>rfl
 |b::r,s,n,h=>by rw[zn (.inr (by omega)),JG h]
theorem CP:∀ {bs:List Nat} {s:aJ} {n:Int},lI p s->(∀b∈bs,b<p.bQ.length)->May s o k n->
  Held p s (uo o k but bs s n).1 o k (n - (uo o k but bs s n).2)/\0<=(uo o k but bs s n).2/\(uo o k but bs s n).2<=n
 |[],s,n,h,_,hm=>by
  have:=hm.n0;exact⟨(Held.refl h).cast (by show(0:Int)=n - n;omega),this,iM _⟩
 |b::r,s,n,h,hb,hm=>by
  by_cases hq:(b:Int)=but\/min n (lU s b (s.aG o k).dh)<1
  ·rw[zn hq];exact CP h (λx hx=>hb x (bP _ hx)) hm
  ·rw[F8 (by omega) (by omega)]
   have f:=hm.fits (p:=p) (b:=b) (m:=min n (lU s b (s.aG o k).dh)) (hb b (dS ..)) (by omega) (by omega) (by omega)
   have h1:=Held.one h f;obtain⟨h2,h3,h4⟩:=CP h1.right (λx hx=>hb x (bP _ hx)) (hm.held h1 (by omega))
   exact⟨(h1.trans h2).cast (by omega),h3,by omega⟩
theorem Fg:∀ {bs:List Nat} {s:aJ} {n:Int},lI p s->(∀b∈bs,b<p.bQ.length)->May s o k n->∀(b:Nat),(b ∉ bs\/(b:Int)=but)->∀g:Int,bound (uo o k but bs s n).1 b g=bound s b g
 |[],s,n,h,_,hm=>λ_ _ _=>rfl
 |c::r,s,n,h,hb,hm=>λb hnot g=>by
  have jl9:b ∉ r\/(b:Int)=but:=hnot.imp (λh1 h2=>h1 (bP _ h2)) id
  by_cases hq:(c:Int)=but\/min n (lU s c (s.aG o k).dh)<1
  ·rw[zn hq];exact Fg h (λx hx=>hb x (bP _ hx)) hm b jl9 g
  ·rw[F8 (by omega) (by omega)]
   have f:=hm.fits (p:=p) (b:=c) (m:=min n (lU s c (s.aG o k).dh)) (hb c (dS ..)) (by omega) (by omega) (by omega)
   have h1:=Held.one h f;rw[Fg h1.right (λx hx=>hb x (bP _ hx)) (hm.held h1 (by omega)) b jl9 g,Hf h f,ay,jC]
   rintro⟨e,_⟩;have:c=b:=by omega
   subst this;rcases hnot with h2|h2
   ·exact h2 (dS ..)
   ·omega
theorem Ny:∀ {bs:List Nat} {s:aJ} {n:Int},bs.Nodup->lI p s->(∀b∈bs,b<p.bQ.length)->May s o k n->0<(uo o k but bs s n).2->∀b∈bs,(b:Int)≠but->lU (uo o k but bs s n).1 b (s.aG o k).dh=0
 |[],s,n,_,h,_,hm=>λ_ b hb=>by simp at hb
 |c::r,s,n,hnd,h,hb,hm=>λwK b hbm hne=>by
  have hnd':=uh.1 hnd;have hav:=hm.lU h (hb c (dS ..));by_cases hq:(c:Int)=but\/min n (lU s c (s.aG o k).dh)<1
  ·rw[zn hq]at wK ⊢
   have hle:=(CP (but:=but) h (λx hx=>hb x (bP _ hx)) hm).2.2
   rcases jM.1 hbm with rfl|hbm
   ·have hoth:=Fg (but:=but) h (λx hx=>hb x (bP _ hx)) hm b (.inl hnd'.1) (s.aG o k).dh
    have hon:=(CP (but:=but) h (λx hx=>hb x (bP _ hx)) hm).1.on
    unfold lU at hq hav ⊢
    rw[hoth,hon];omega
   ·exact Ny hnd'.2 h (λx hx=>hb x (bP _ hx)) hm wK b hbm hne
  ·rw[F8 (by omega) (by omega)]at wK ⊢
   have f:=hm.fits (p:=p) (b:=c) (m:=min n (lU s c (s.aG o k).dh)) (hb c (dS ..)) (by omega) (by omega) (by omega)
   have h1:=Held.one h f;have hm1:=hm.held h1 (by omega)
   have hle:=(CP (but:=but) h1.right (λx hx=>hb x (bP _ hx)) hm1).2.2
   rcases jM.1 hbm with rfl|hbm
   ·have hoth:=Fg (but:=but) h1.right (λx hx=>hb x (bP _ hx)) hm1 b (.inl hnd'.1) (s.aG o k).dh
    have hon:=(CP (but:=but) h1.right (λx hx=>hb x (bP _ hx)) hm1).1.on
    have ha1:=jbU h f b (s.aG o k).dh;rw[aB ⟨rfl,rfl⟩]at ha1
    have e:lU (uo o k but r (tZ s o k b (min n (lU s b (s.aG o k).dh))) (n - min n (lU s b (s.aG o k).dh))).1 b (s.aG o k).dh=lU (tZ s o k b (min n (lU s b (s.aG o k).dh))) b (s.aG o k).dh:=by
     unfold lU at hoth hon ⊢
     rw[hoth,hon]
    rw[e,ha1];omega
   ·have:=Ny hnd'.2 h1.right (λx hx=>hb x (bP _ hx)) hm1 wK b hbm hne
    rwa [(h1.aG o k).1]at this
end
theorem jfD(p:dA):(way p).Nodup:=(Zp p).imp λh=>h.1
theorem I4(p:dA):∀b∈way p,b<p.bQ.length:=λ_ h=>je6.1 h
theorem Qi{p:dA}{s:aJ}{o k:Nat}{n but:Int}(h:lI p s)(hm:May s o k n):
  Held p s (qL p s o k n but).1 o k (n - (qL p s o k n but).2)/\0<=(qL p s o k n but).2/\(qL p s o k n but).2<=n:=CP h (I4 p) hm
theorem Ve{p:dA}{s:aJ}{o k:Nat}{n but:Int}(h:lI p s)(hm:May s o k n)(hl:0<(qL p s o k n but).2){b:Nat}(hb:b<p.bQ.length)(hne:(b:Int)≠but):lU (qL p s o k n but).1 b (s.aG o k).dh=0:=
 Ny (jfD p) h (I4 p) hm hl b (je6.2 hb) hne
theorem jfF{p:dA}{s:aJ}{o k b:Nat}{n:Int}(h:lI p s)(hm:May s o k n)(g:Int):bound (qL p s o k n b).1 b g=bound s b g:=Fg h (I4 p) hm b (.inr rfl) g
def jcf(s:aJ)(g:Int)(o k:Nat):Int:=if(s.aG o k).dh=g then(s.aG o k).oh else 0
def VF(F:Nat->Nat->Int)(s:aJ)(o k:Nat):Int:=nH (λi=>nH (F i) (s.aC i).aH.length) o+nH (F o) k
theorem jdw(F:Nat->Nat->Int)(s:aJ)(o:Nat):VF F s (o+1) 0=VF F s o (s.aC o).aH.length:=by
 show(nH _ o+nH (F o) (s.aC o).aH.length)+0=_;unfold VF;omega
theorem jaA{p:dA}{b:Int}(h:lV p b=true):∃n:Nat,b=n/\n<p.bQ.length:=by
 have:=yT.1 h;exact⟨b.toNat,by omega,by omega⟩
theorem WL{p:dA}{g:Int}(h:iK p g=true):∃n:Nat,g=n/\n<p.aP.length:=by
 have:=vN.1 h;exact⟨g.toNat,by omega,by omega⟩
theorem KN(n i:Nat):bI (List.replicate n 0) i=0:=by
 unfold bI;by_cases h:i<n<;>simp[h]
theorem jcG(n m b g:Nat):cell (List.replicate n (List.replicate m 0)) b g=0:=by
 unfold cell fO;by_cases h:b<n
 ·simp[h,KN]
 ·simp[h,bI]
theorem Vj{f:Nat->Int}{n:Nat}(h:∀k,k<n->f k=0):nH f n=0:=by
 induction n with
 |zero=>rfl
 |succ n ih=>
  show nH f n+f n=0;rw[ih λk hk=>h k (by omega),h n (by omega)]
  rfl
theorem Uo{p:dA}(h:gQ p=0):aQ p (begin p)=0:=by
 have hc:=pJ h;have hsum:uN p (List.replicate p.aP.length 0) 0=true:=qU.2 ⟨by simp,D7 0 λk hk=>by
  have:=KN p.aP.length k;unfold bI at this
  rw[this];rfl⟩
 have jqN:uN p (List.replicate p.aP.length 0) (-1048576)=true:=qU.2 ⟨by simp,D7 0 λk hk=>by
  have:=KN p.aP.length k;unfold bI at this
  rw[this];rfl⟩
 refine oU.2 ⟨lI.of (o9.of ?_ (by show(0:Nat)<=4;omega) (by show(0:Nat)<=8;omega) (λo ho=>by cases ho) (λo k ho=>by cases ho) rfl (λx hx=>by cases hx) (λx hx=>by cases hx) hsum hsum jqN) (λg hg=>?_) (λb g hb hg=>?_) (λo k ho=>by cases ho),λo ho=>by cases ho⟩
 ·refine OH h (by simp[begin]) λk hk=>?_
  have hk':k<p.bQ.length:=by simpa[begin]using hk
  have e:fO (begin p).on k=List.replicate p.aP.length 0:=by simp[begin,fO,hk']
  rw[e];refine Yy (by simp) λj hj=>?_
  rw[KN];rfl
 ·show BU (List.replicate p.bQ.length (List.replicate p.aP.length 0)) g=bI (List.replicate p.aP.length 0) g - bI (List.replicate p.aP.length 0) g+bI (List.replicate p.aP.length 0) g;rw[KN];exact Vj λk _=>jcG _ _ _ _
 ·show(0:Int)<=cell (List.replicate p.bQ.length (List.replicate p.aP.length 0)) b g;rw[jcG];exact iM _
theorem Qy{s t:aJ}(hh:t.aA=s.aA)(hg:∀x∈s.aA,(t.aG x.aC.toNat x.aG.toNat).dh=(s.aG x.aC.toNat x.aG.toNat).dh)(b g:Int):pK t b g=pK s b g:=by
 unfold pK;rw[hh];congr 1
 apply oM;intro h hm;unfold wX;rw[hg h hm]
theorem pR{on:List (List Int)}{b g b' g':Nat}{n:Int}(hb:b<on.length)(hg:g<(fO on b).length):cell (setCell on b g n) b' g'=if b'=b/\g'=g then n else cell on b' g':=jcF hb hg
theorem Ea{on:List (List Int)}{b g:Nat}{n:Int}(hb:b<on.length)(hg:g<(fO on b).length)(g':Nat):BU (setCell on b g n) g'=BU on g'+if g'=g then n - cell on b g else 0:=by
 unfold BU;rw[qh];by_cases h:g'=g
 ·subst h;rw[aB rfl];refine EH (i:=b) hb (λk hk hne=>?_) ?_
  ·show cell _ k g'=_;rw[pR hb hg,ay (by omega)]
  ·show cell _ b g'=_;rw[pR hb hg,aB ⟨rfl,rfl⟩];omega
 ·rw[ay h,jC];refine zo λk hk=>?_
  show cell (setCell on b g n) k g'=cell on k g';rw[pR hb hg,ay (by omega)]
theorem LK{p:dA}{l:List Int}{lo:Int}(h:uN p l lo=true){g:Nat}(hg:g<l.length){n:Int}(h1:lo<=n)(h2:n<=1048576):uN p (l.set g n) lo=true:=by
 obtain⟨h3,h4⟩:=qU.1 h;refine qU.2 ⟨by simpa using h3,D7 0 λk hk=>?_⟩
 have e:(l.set g n).getD k 0=if k=g then n else bI l k:=IJ hg
 rw[e];split
 ·exact dV.2 ⟨h1,h2⟩
 ·exact uP 0 h4 (by simpa using hk)
theorem Kt{p:dA}{s:aJ}{b g n:Int}(h:(rF p s b g n).2=0):
  aQ p s=0/\lV p b=true/\iK p g=true/\(1<=n/\n<=200)/\n*bI p.aP g.toNat<=free p s b/\cell s.on b.toNat g.toNat+iq s b g+n<=200/\bI s.gY g.toNat+n<=1048576/\
  (rF p s b g n).1={s with on:=setCell s.on b.toNat g.toNat (cell s.on b.toNat g.toNat+n),gY:=s.gY.set g.toNat (bI s.gY g.toNat+n)}:=by
 unfold rF at h ⊢
 by_cases h1:aQ p s=0
 ·rw[ay (λhn=>hn h1)]at h ⊢
  by_cases h2:(lV p b&&iK p g&&cZ n 1 200)=true
  ·rw[ay (by rw[h2];simp)]at h ⊢
   split at h
   ·simp at h
   ·rename_i h3
    rw[ay h3];split at h
    ·simp at h
    ·rename_i h4
     rw[ay h4];rw[bG,bG,dV]at h2
     exact⟨h1,h2.1.1,h2.1.2,h2.2,by omega,by omega,by omega,rfl⟩
  ·rw[aB (by rw[nM]at h2;rw[h2];rfl)]at h
   simp at h
 ·rw[aB h1]at h
  exact absurd h h1
theorem received{p:dA}{s:aJ}{b g:Nat}{n:Int}(h:aQ p s=0)(hb:b<p.bQ.length)(hg:g<p.aP.length)(hn:1<=n)(h2:cell s.on b g+iq s b g+n<=200)(h3:bI s.gY g+n<=1048576):
  aQ p {s with on:=setCell s.on b g (cell s.on b g+n),gY:=s.gY.set g (bI s.gY g+n)}=0:=by
 obtain⟨hr,Ky⟩:=oU.1 h;have hs:=hr.sane;have hbl:b<s.on.length:=by rw[hs.tY];exact hb
 have hgl:g<(fO s.on b).length:=by rw[hs.rowLen hb];exact hg
 have hgi:g<s.gY.length:=by rw[hs.gY.1];exact hg
 have yu:=hs.cell hb hg;have hinn:=hs.gY.2 hg;have hcom:=xC hs b g;refine oU.2 ⟨lI.of (o9.of ?_ hs.qH hs.vJ (λo ho=>⟨hs.tN ho,hs.dW ho⟩) (λo k ho hk=>rP.2 (hs.aG ho hk)) hs.aA (λx hx=>aX.1 (dR.1 hs.form).2.2.1 x hx) (λx hx=>aX.1 (dR.1 hs.form).2.2.2.1 x hx)
  (LK (dR.1 hs.form).2.2.2.2.1 hgi (by omega) h3) (dR.1 hs.form).2.2.2.2.2.1 (dR.1 hs.form).2.2.2.2.2.2) (λg' hg'=>?_) (λb' g' hb' hg'=>?_) hr.aG,Ky⟩
 ·exact jZ.2 ⟨hs.plan,LM (jZ.1 hs.shelf).2 (by omega) hb hg⟩
 ·show BU (setCell s.on b g (cell s.on b g+n)) g'=bI (s.gY.set g (bI s.gY g+n)) g' - bI s.O g'+bI s.bg g';rw[Ea hbl hgl,IJ hgi,hr.sum hg'];by_cases e:g'=g
  ·subst e;rw[aB rfl,aB rfl];omega
  ·rw[ay e,ay e];omega
 ·show bound s b' g'<=cell (setCell s.on b g (cell s.on b g+n)) b' g';have:=hr.bnd hb' hg';rw[pR hbl hgl];split
  ·rename_i e
   obtain⟨rfl,rfl⟩:=e;omega
  ·exact this
theorem Zw{p:dA}{s:aJ}{b g n:Int}(h:(rF p s b g n).2=0):
  aQ p (rF p s b g n).1=0/\aQ p s=0/\lV p b=true/\iK p g=true/\lU (rF p s b g n).1 b g=lU s b g+n/\0<=free p (rF p s b g n).1 b:=by
 obtain⟨h1,h2,h3,h4,h5,h6,h7,h8⟩:=Kt h;have hr:=jf h1;obtain⟨bn,rfl,hbn⟩:=jaA h2;obtain⟨gn,rfl,hgn⟩:=WL h3;simp only[bZ]at h5 h6 h7 h8
 have hbl:bn<s.on.length:=by rw[hr.sane.tY];exact hbn
 have hgl:gn<(fO s.on bn).length:=by rw[hr.sane.rowLen hbn];exact hgn
 rw[h8];refine⟨received h1 hbn hgn h4.1 h6 h7,h1,h2,h3,?_,?_⟩
 ·unfold lU;show cell (setCell s.on bn gn (cell s.on bn gn+n)) (bn:Int).toNat (gn:Int).toNat - bound s bn gn=_;simp only[bZ];rw[pR hbl hgl,aB ⟨rfl,rfl⟩];omega
 ·unfold free at h5 ⊢
  simp only[bZ]at h5 ⊢
  have:nH (λg=>(cell (setCell s.on bn gn (cell s.on bn gn+n)) bn g+iq s bn g)*bI p.aP g) p.aP.length=nH (λg=>(cell s.on bn g+iq s bn g)*bI p.aP g) p.aP.length+n*bI p.aP gn:=by
   refine EH (i:=gn) hgn (λk hk hne=>?_) ?_
   ·show(cell (setCell s.on bn gn (cell s.on bn gn+n)) bn k+iq s bn k)*bI p.aP k=_;rw[pR hbl hgl,ay (by omega)]
   ·show(cell (setCell s.on bn gn (cell s.on bn gn+n)) bn gn+iq s bn gn)*bI p.aP gn=_;rw[pR hbl hgl,aB ⟨rfl,rfl⟩,<- xW];congr 1
    omega
  have e:∀g:Nat,iq {s with on:=setCell s.on bn gn (cell s.on bn gn+n),gY:=s.gY.set gn (bI s.gY gn+n)} bn g=iq s bn g:=λ_=>rfl
  simp only[e];rw[this];omega
theorem Ou{p:dA}{s:aJ}{l:List Line}(h:(enter p s l).2=0):
  aQ p s=0/\s.ak.length<4/\(1<=l.length/\l.length<=3)/\(∀x∈l,(iK p x.dh=true/\1<=x.iw/\x.iw<=200)/\x.oh=0/\x.dP=0)/\(enter p s l).1={s with ak:=s.ak++[⟨0,l⟩]}:=by
 unfold enter at h ⊢
 by_cases h1:aQ p s=0
 ·rw[ay (λhn=>hn h1)]at h ⊢
  split at h
  ·simp at h
  ·rename_i h2
   rw[ay h2];split at h
   ·simp at h
   ·rename_i h3
    rw[ay h3];split at h
    ·simp at h
    ·rename_i h4
     rw[ay h4];have h2':s.ak.length<4/\cZ l.length 1 3=true:=by
      constructor
      ·exact Nat.lt_of_not_le λhh=>h2 (.inl hh)
      ·cases hq:cZ (l.length:Int) 1 3
       ·exact absurd (.inr (by rw[hq];rfl)) h2
       ·rfl
     have h3':(l.all λx=>iK p x.dh&&cZ x.iw 1 200)=true:=by simpa using h3
     have h4':(l.all λx=>decide (x.oh=0)&&decide (x.dP=0))=true:=by simpa using h4
     refine⟨h1,h2'.1,by have:=dV.1 h2'.2;omega,λx hx=>⟨?_,?_⟩,rfl⟩
     ·have:=aX.1 h3' x hx;rw[bG,dV]at this
      exact this
     ·have:=aX.1 h4' x hx;rw[bG,bD,bD]at this
      exact this
 ·rw[aB h1]at h
  exact absurd h h1
theorem jf0{p:dA}{s:aJ}(hs:o9 p s){o:Nat}(ho:s.ak.length<=o)(k:Int):kept s.aA o k=0:=by
 unfold kept;rw[J5]
 ·rfl
 ·intro x hx;obtain⟨i,hi,rfl⟩:=aV hx;have:=(hs.yR hi).1;rw[iL hi]at this
  unfold Bz;rw[fA (by omega),uY]
theorem jes{p:dA}{s:aJ}{l:List Line}(h:(enter p s l).2=0):aQ p (enter p s l).1=0/\(enter p s l).1.ak.length=s.ak.length+1/\(enter p s l).1.aA=s.aA:=by
 obtain⟨h1,h2,h3,h4,h5⟩:=Ou h;rw[h5];refine⟨?_,by simp,rfl⟩
 obtain⟨hr,Ky⟩:=oU.1 h1;have hs:=hr.sane;have hor:∀o,o<s.ak.length->({s with ak:=s.ak++[⟨0,l⟩]}:aJ).aC o=s.aC o:=λo ho=>by
  unfold aJ.aC aU;simp[ho,fE]
 have hnew:({s with ak:=s.ak++[⟨0,l⟩]}:aJ).aC s.ak.length=⟨0,l⟩:=by
  unfold aJ.aC aU;simp
 have hln:∀o k,o<s.ak.length->({s with ak:=s.ak++[⟨0,l⟩]}:aJ).aG o k=s.aG o k:=λo k ho=>by
  unfold aJ.aG;rw[hor o ho]
 have hcase:∀o,o<({s with ak:=s.ak++[⟨0,l⟩]}:aJ).ak.length->o<s.ak.length\/o=s.ak.length:=λo ho=>by
  have:o<s.ak.length+1:=by simpa using ho
  omega
 have hbound:∀b g:Int,bound {s with ak:=s.ak++[⟨0,l⟩]} b g=bound s b g:=λb g=>by
  unfold bound;have:pK {s with ak:=s.ak++[⟨0,l⟩]} b g=pK s b g:=Qy (s:=s) (t:={s with ak:=s.ak++[⟨0,l⟩]}) rfl (λx hx=>by
   obtain⟨i,hi,rfl⟩:=aV hx;have:=(hs.yR hi).1;rw[iL hi]at this
   rw[hln _ _ (by omega)]) b g
  rw[this]
 have hl:∀k,k<l.length->tV p (gK l k)=true/\(gK l k).oh=0/\(gK l k).dP=0:=λk hk=>by
  have:=h4 (gK l k) (by rw[qw hk];exact bU hk)
  refine⟨rP.2 ⟨vN.1 this.1.1,this.1.2,by omega,by omega⟩,this.2⟩
 refine oU.2 ⟨lI.of (o9.of hs.shelf (by simp;omega) hs.vJ (λo ho=>?_) (λo k ho hk=>?_) hs.aA (λx hx=>?_) (λx hx=>aX.1 (dR.1 hs.form).2.2.2.1 x hx)
  (dR.1 hs.form).2.2.2.2.1 (dR.1 hs.form).2.2.2.2.2.1 (dR.1 hs.form).2.2.2.2.2.2) (λg hg=>hr.sum hg) (λb g hb hg=>by rw[hbound];exact hr.bnd hb hg) (λo k ho hk=>?_),λo ho=>?_⟩
 ·rcases hcase o ho with ho|rfl
  ·rw[hor o ho];exact⟨hs.tN ho,hs.dW ho⟩
  ·rw[hnew];exact⟨h3,by simp only;omega⟩
 ·rcases hcase o ho with ho|rfl
  ·rw[hor o ho]at hk
   rw[hln o k ho];exact rP.2 (hs.aG ho hk)
  ·rw[hnew]at hk
   unfold aJ.aG;rw[hnew];exact(hl k hk).1
 ·have hq:=nZ.1 (aX.1 (dR.1 hs.form).2.2.1 x hx);obtain⟨i,hi,rfl⟩:=aV hx;have h0:=(hs.yR hi).1;rw[iL hi]at h0
  change s.aA[i].aC<_/\_ at hq
  refine nZ.2 ⟨?_,?_,hq.2.2⟩
  ·have:=hq.1;change s.aA[i].aC<_;simp only[aZ,dw,dY];omega
  ·rw[hor _ (by change s.aA[i].aC.toNat<_;omega)]
   exact hq.2.1
 ·rcases hcase o ho with ho|rfl
  ·rw[hor o ho]at hk
   rw[uz,hln o k ho,hor o ho];exact hr.AU ho hk
  ·rw[hnew]at hk
   rw[uz];unfold aJ.aG;rw[hnew];have e:kept ({s with ak:=s.ak++[⟨0,l⟩]}:aJ).aA s.ak.length k=0:=jf0 hs (au _) k
   rw[e];obtain⟨_,h6,h7⟩:=hl k hk;simp only[ite_true];omega
 ·rcases hcase o ho with ho|rfl
  ·rw[hor o ho];exact Ky o ho
  ·rw[hnew];simp
end Wh
