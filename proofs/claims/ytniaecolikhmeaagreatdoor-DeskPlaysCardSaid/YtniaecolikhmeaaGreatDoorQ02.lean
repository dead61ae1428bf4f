/- Texts of the claim, joined. -/
import Derived.Test.YtniaecolikhmeaaGreatDoorQ01
set_option maxHeartbeats 20000000
set_option maxRecDepth 100000
set_option linter.all false
namespace Wh
theorem qH{l:List eX}(h:iI l=true):l.length<=72:=by
 have hr:=(gI.1 h).2;have hf:=(gI.1 h).1;have hp:∀x∈l,0<=fP x/\fP x<72:=λx hx=>by
  have:=(nH.1 (hf x hx)).1;unfold sJ at this
  unfold fP;omega
 have hn:(l.map λx=>(fP x).toNat).Nodup:=by
  rw[List.Nodup,nZ];refine qO ?_ hr
  intro a b ha hb hab;have h1:=hp a ha;have h2:=hp b hb;omega
 have hs:(l.map λx=>(fP x).toNat) ⊆ List.range 72:=λn hn'=>by
  obtain⟨x,hx,rfl⟩:=kN.1 hn';have:=hp x hx;exact jq.2 (by omega)
 have:=hn.length_le_of_subset hs;simpa using this
structure pz(p:dG)(s:aI):Prop where
 shelf:iU p s.on=0
 many:J4 s=true
 form:oU p s=true
theorem vJ{α:Type}{P:α->Bool}{l:List α}(d:α)(h:l.all P=true){k:Nat}(hk:k<l.length):P (l.getD k d)=true:=by
 have e:l.getD k d=l[k]:=by simp[hk]
 rw[e];exact bJ.1 h _ (dh hk)
theorem ET{α:Type}{P:α->Bool}{l:List α}(d:α)(h:∀k,k<l.length->P (l.getD k d)=true):l.all P=true:=by
 rw[bJ];intro x hx;obtain⟨k,hk,rfl⟩:=bg hx;have:=h k hk;have e:l.getD k d=l[k]:=by simp[hk]
 rwa [e]at this
theorem jpE{α:Type}{P:α->Bool}{l:List α}(d:α){k:Nat}(hk:k<l.length)(h:P (l.getD k d)=false):l.all P=false:=by
 cases ha:l.all P
 ·rfl
 ·rw[vJ d ha hk]at h;cases h
theorem GR{α:Type}(P:α->Bool)(l:List α):(l.any λx=>!P x)= !(l.all P):=by
 induction l with
 |nil=>rfl
 |cons x l ih=>rw[zJ,List.all_cons,ih,Bool.not_and]
theorem D7{s:aI}:J4 s=true↔s.ak.length<=4/\s.aF.length<=8/\s.ak.all (λo=>dM o.aH.length 1 3)=true:=by
 unfold J4;simp only[dF,dI,yw]
theorem eG{p:dG}{s:aI}:oU p s=true↔s.ak.all (xJ p)=true/\iI s.aA=true/\s.aA.all (zy p s)=true/\s.aF.all (sZ p)=true/\
  vF p s.jf 0=true/\vF p s.O 0=true/\vF p s.dB (-1048576)=true:=by
 unfold oU;simp only[dF,yw]
theorem rO{p:dG}{x:Line}:ug p x=true↔(0<=x.dW/\x.dW<p.aW.length)/\(1<=x.jk/\x.jk<=200)/\(0<=x.qI/\x.qI<=x.jk)/\(0<=x.eU/\x.eU<=x.jk):=by
 unfold ug;simp only[dF,dZ,wI,yw]
theorem Hu{p:dG}{x:Move}:sZ p x=true↔(0<=x.dW/\x.dW<p.aW.length)/\(0<=x.src/\x.src<p.dP.length)/\(0<=x.dst/\x.dst<p.dP.length)/\x.src≠x.dst/\1<=x.n/\x.n<=200:=by
 unfold sZ;simp only[dF,dZ,wI,zA,yw,dI]
theorem FQ{p:dG}{o:Order}:xJ p o=true↔(0<=o.eH/\o.eH<=2)/\o.aH.all (ug p)=true:=by
 unfold xJ;simp only[dF,dZ]
theorem qU{p:dG}{l:List Int}{lo:Int}:vF p l lo=true↔l.length=p.aW.length/\l.all (dM · lo 1048576)=true:=by
 unfold vF;simp only[dF,dI]
theorem og{p:dG}{s:aI}{h:eX}:zy p s h=true↔h.aC<s.ak.length/\h.aK<(s.aC h.aC.toNat).aH.length/\h.bin<p.dP.length:=by
 unfold zy;simp only[dF,dI,yw]
namespace pz
variable {p:dG} {s:aI} (h:pz p s)
include h
theorem plan:fU p=0:=(jR.1 h.shelf).1
theorem nX:s.ak.length<=4:=(D7.1 h.many).1
theorem uf:s.aF.length<=8:=(D7.1 h.many).2.1
theorem rE{o:Nat}(ho:o<s.ak.length):1<=(s.aC o).aH.length/\(s.aC o).aH.length<=3:=by
 have:=vJ Ig (D7.1 h.many).2.2 ho;have:=dZ.1 this;unfold aI.aC bK;omega
theorem xJ{o:Nat}(ho:o<s.ak.length):Wh.xJ p (s.aC o)=true:=vJ Ig (eG.1 h.form).1 ho
theorem eH{o:Nat}(ho:o<s.ak.length):0<=(s.aC o).eH/\(s.aC o).eH<=2:=(FQ.1 (h.xJ ho)).1
theorem aK{o k:Nat}(ho:o<s.ak.length)(hk:k<(s.aC o).aH.length):
  (0<=(s.aK o k).dW/\(s.aK o k).dW<p.aW.length)/\(1<=(s.aK o k).jk/\(s.aK o k).jk<=200)/\(0<=(s.aK o k).qI/\(s.aK o k).qI<=(s.aK o k).jk)/\(0<=(s.aK o k).eU/\(s.aK o k).eU<=(s.aK o k).jk):=
 rO.1 (vJ IU (FQ.1 (h.xJ ho)).2 hk)
theorem aA:iI s.aA=true:=(eG.1 h.form).2.1
theorem yL{k:Nat}(hk:k<s.aA.length):(0<=(hold s.aA k).aC/\(hold s.aA k).aC<s.ak.length)/\(0<=(hold s.aA k).aK/\(hold s.aA k).aK<(s.aC (hold s.aA k).aC.toNat).aH.length)/\
  (0<=(hold s.aA k).bin/\(hold s.aA k).bin<p.dP.length)/\(1<=(hold s.aA k).n/\(hold s.aA k).n<=200):=by
 have h1:=I5 h.aA hk;have h2:=jgP h.aA hk;have h3:=og.1 (vJ Pn (eG.1 h.form).2.2.1 hk);unfold sJ at h1
 change(hold s.aA k).aC<_/\_ at h3
 obtain⟨a,b,c⟩:=h3;exact⟨⟨h1.1.1,a⟩,⟨h1.2.1.1,b⟩,⟨h1.2.2.1,c⟩,h2⟩
theorem bZ{k:Nat}(hk:k<s.aF.length):(0<=(bZ s.aF k).dW/\(bZ s.aF k).dW<p.aW.length)/\(0<=(Wh.bZ s.aF k).src/\(Wh.bZ s.aF k).src<p.dP.length)/\
  (0<=(Wh.bZ s.aF k).dst/\(Wh.bZ s.aF k).dst<p.dP.length)/\(Wh.bZ s.aF k).src≠(Wh.bZ s.aF k).dst/\1<=(Wh.bZ s.aF k).n/\(Wh.bZ s.aF k).n<=200:=
 Hu.1 (vJ Kv (eG.1 h.form).2.2.2.1 hk)
theorem jf:s.jf.length=p.aW.length/\∀ {g},g<p.aW.length->0<=aZ s.jf g/\aZ s.jf g<=1048576:=by
 obtain⟨h1,h2⟩:=qU.1 (eG.1 h.form).2.2.2.2.1;exact⟨h1,λhg=>dZ.1 (vJ 0 h2 (by omega))⟩
theorem O:s.O.length=p.aW.length/\∀ {g},g<p.aW.length->0<=aZ s.O g/\aZ s.O g<=1048576:=by
 obtain⟨h1,h2⟩:=qU.1 (eG.1 h.form).2.2.2.2.2.1;exact⟨h1,λhg=>dZ.1 (vJ 0 h2 (by omega))⟩
theorem dB:s.dB.length=p.aW.length/\∀ {g},g<p.aW.length-> -1048576<=aZ s.dB g/\aZ s.dB g<=1048576:=by
 obtain⟨h1,h2⟩:=qU.1 (eG.1 h.form).2.2.2.2.2.2;exact⟨h1,λhg=>dZ.1 (vJ 0 h2 (by omega))⟩
theorem sO:s.on.length=p.dP.length:=PX h.shelf
theorem rowLen{b:Nat}(hb:b<p.dP.length):(fO s.on b).length=p.aW.length:=PW h.shelf (by rw[h.sO];exact hb)
theorem cell{b g:Nat}(hb:b<p.dP.length)(hg:g<p.aW.length):0<=cell s.on b g/\Wh.cell s.on b g<=200:=Hr h.shelf (by rw[h.sO];exact hb) hg
theorem counts:1<=p.dP.length/\p.dP.length<=6/\1<=p.aW.length/\p.aW.length<=3:=oI h.plan
end pz
theorem MQ{p:dG}{s:aI}(h:iU p s.on≠0):aO p s=iU p s.on:=by unfold aO;rw[aB h]
theorem zF{p:dG}{s:aI}(h:iU p s.on=0)(h2:J4 s=false):aO p s=2:=by
 unfold aO;rw[au (λhn=>hn h),h2];rfl
theorem Oa{p:dG}{s:aI}(h:iU p s.on=0)(h2:J4 s=true)(h3:oU p s=false):aO p s=1:=by
 unfold aO;rw[au (λhn=>hn h),h2,h3];rfl
theorem Py{p:dG}{s:aI}(h:pz p s)(h4:Fv p s=false):aO p s=7:=by
 unfold aO;rw[au (λhn=>hn h.shelf),h.many,h.form,h4];rfl
theorem LW{p:dG}{s:aI}(h:pz p s)(h4:Fv p s=true):aO p s=0:=by
 unfold aO;rw[au (λhn=>hn h.shelf),h.many,h.form,h4];rfl
theorem gB{p:dG}{s:aI}:aO p s=0↔pz p s/\Fv p s=true:=by
 constructor
 ·intro h;unfold aO at h
  split at h
  ·rename_i h1;exact absurd h h1
  ·rename_i h1
   cases h2:J4 s
   ·rw[h2]at h;simp at h
   ·cases h3:oU p s
    ·rw[h2,h3]at h;simp at h
    ·cases h4:Fv p s
     ·rw[h2,h3,h4]at h;simp at h
     ·exact⟨⟨by simpa using h1,h2,h3⟩,rfl⟩
 ·rintro⟨h,h4⟩;exact LW h h4
def NH(s:aI)(b g:Int)(k:Nat):Int:=((s.aA.take k).map (xM s b g)).sum
def Gw(l:List Move)(b g:Int)(k:Nat):Int:=((l.take k).map (BI b g)).sum
def Gz(l:List Move)(b g:Int)(k:Nat):Int:=((l.take k).map (toN b g)).sum
theorem Wu{α:Type}(f:α->Int)(l:List α)(d:α){k:Nat}(hk:k<l.length):((l.take (k+1)).map f).sum=((l.take k).map f).sum+f (l.getD k d):=by
 rw[bM hk,gJ,uz];simp[hk]
theorem UW{s:aI}{b g:Int}{k:Nat}(hk:k<s.aA.length):NH s b g (k+1)=NH s b g k+xM s b g (hold s.aA k):=Wu _ _ Pn hk
theorem Tj{l:List Move}{b g:Int}{k:Nat}(hk:k<l.length):Gw l b g (k+1)=Gw l b g k+BI b g (bZ l k):=Wu _ _ Kv hk
theorem QL{l:List Move}{b g:Int}{k:Nat}(hk:k<l.length):Gz l b g (k+1)=Gz l b g k+toN b g (bZ l k):=Wu _ _ Kv hk
theorem H8(s:aI)(b g:Int):NH s b g s.aA.length=pO s b g:=by unfold NH pO;rw[dR]
theorem Lj(l:List Move)(b g:Int):Gw l b g l.length=mF l b g:=by unfold Gw mF;rw[dR]
theorem NS(l:List Move)(b g:Int):Gz l b g l.length=MO l b g:=by unfold Gz MO;rw[dR]
theorem Gl{l:List Int}{m:Int}(h:∀x∈l,0<=x/\x<=m):0<=l.sum/\l.sum<=l.length*m:=by
 induction l with
 |nil=>simp
 |cons x l ih=>
  have h1:=h x (by simp)
  have h2:=ih (λy hy=>h y (by simp[hy]))
  rw[iL,bP,Int.natCast_add,yG];omega
theorem ED{p:dG}{s:aI}(h:pz p s)(b g:Int)(k:Nat):0<=NH s b g k/\NH s b g k<=14400:=by
 have h72:=qH h.aA;have hr:=Gl (l:=(s.aA.take k).map (xM s b g)) (m:=200) (λx hx=>by
  obtain⟨y,hy,rfl⟩:=kN.1 hx;obtain⟨i,hi,rfl⟩:=bg (oq hy);have:=jgP h.aA hi;rw[iZ hi]at this
  unfold xM;split<;>omega)
 rw[gX,bC]at hr
 unfold NH;omega
theorem Io{p:dG}{s:aI}(h:pz p s)(b g:Int)(k:Nat):0<=Gw s.aF b g k/\Gw s.aF b g k<=1600:=by
 have h8:=h.uf;have hr:=Gl (l:=(s.aF.take k).map (BI b g)) (m:=200) (λx hx=>by
  obtain⟨y,hy,rfl⟩:=kN.1 hx;obtain⟨i,hi,rfl⟩:=bg (oq hy);have:=h.bZ hi;rw[Wh.pJ hi]at this
  unfold BI;split<;>omega)
 rw[gX,bC]at hr
 unfold Gw;omega
theorem KA{p:dG}{s:aI}(h:pz p s)(b g:Int)(k:Nat):0<=Gz s.aF b g k/\Gz s.aF b g k<=1600:=by
 have h8:=h.uf;have hr:=Gl (l:=(s.aF.take k).map (toN b g)) (m:=200) (λx hx=>by
  obtain⟨y,hy,rfl⟩:=kN.1 hx;obtain⟨i,hi,rfl⟩:=bg (oq hy);have:=h.bZ hi;rw[Wh.pJ hi]at this
  unfold toN;split<;>omega)
 rw[gX,bC]at hr
 unfold Gz;omega
theorem F6{p:dG}{s:aI}(h:pz p s)(b g:Int):0<=bound s b g/\bound s b g<=16000:=by
 have h1:=ED h b g s.aA.length;have h2:=Io h b g s.aF.length;rw[H8]at h1
 rw[Lj]at h2
 unfold bound;omega
theorem yh{p:dG}{s:aI}(h:pz p s)(b g:Int):0<=iC s b g/\iC s b g<=1600:=by
 have h2:=KA h b g s.aF.length;rw[NS]at h2
 exact h2
theorem L8{n:Nat}{P:Nat->Bool}:(List.range n).all P=true↔∀k,k<n->P k=true:=by
 rw[bJ];exact⟨λh k hk=>h k (jq.2 hk),λh k hk=>h k (jq.1 hk)⟩
theorem jb6{n:Nat}{P:Nat->Bool}{k:Nat}(hk:k<n)(h:P k=false):(List.range n).all P=false:=by
 cases ha:(List.range n).all P
 ·rfl
 ·rw[L8.1 ha k hk]at h;cases h
theorem QV{p:dG}{s:aI}:Fv p s=true↔(∀g,g<p.aW.length->xR p s g=true)/\∀o,o<s.ak.length->wZ s o=true:=by
 unfold Fv;rw[dF,L8,L8]
theorem KR{p:dG}{s:aI}{g:Nat}(hg:g<p.aW.length)(h:xR p s g=false):Fv p s=false:=by
 unfold Fv;rw[jb6 hg h,vZ]
theorem qG{p:dG}{s:aI}{o:Nat}(ho:o<s.ak.length)(h:wZ s o=false):Fv p s=false:=by
 unfold Fv;rw[jb6 ho h,Dh]
theorem yO{p:dG}{s:aI}{g:Nat}:xR p s g=true↔Du s.on g=aZ s.jf g - aZ s.O g+aZ s.dB g/\∀b:Nat,b<p.dP.length->bound s b g<=cell s.on b g:=by
 unfold xR;rw[dF,L8];simp
theorem O5{p:dG}{s:aI}{g:Nat}(h:Du s.on g≠aZ s.jf g - aZ s.O g+aZ s.dB g):xR p s g=false:=by
 cases hq:xR p s g
 ·rfl
 ·exact absurd (yO.1 hq).1 h
theorem O6{p:dG}{s:aI}{g b:Nat}(hb:b<p.dP.length)(h:cell s.on b g<bound s b g):xR p s g=false:=by
 cases hq:xR p s g
 ·rfl
 ·have:=(yO.1 hq).2 b hb;omega
theorem sK{s:aI}{o:Nat}:wZ s o=true↔¬((s.aC o).eH=1/\pq (s.aC o)=true)/\∀k,k<(s.aC o).aH.length->mO s o k=true:=by
 unfold wZ;rw[dF,L8];by_cases h1:(s.aC o).eH=1<;>simp[h1]
theorem NZ{s:aI}{o:Nat}(h:(s.aC o).eH=1)(h2:pq (s.aC o)=true):wZ s o=false:=by
 cases hq:wZ s o
 ·rfl
 ·exact absurd ⟨h,h2⟩ (sK.1 hq).1
theorem nR{s:aI}{o k:Nat}(hk:k<(s.aC o).aH.length)(h:mO s o k=false):wZ s o=false:=by
 cases hq:wZ s o
 ·rfl
 ·rw[(sK.1 hq).2 k hk]at h
  cases h
theorem uP{s:aI}{o k:Nat}:mO s o k=true↔(s.aK o k).qI+(s.aK o k).eU+kept s.aA o k=(if(s.aC o).eH=0 then 0 else(s.aK o k).jk)/\¬((s.aC o).eH=2/\0<kept s.aA o k):=by
 unfold mO;by_cases h1:(s.aC o).eH=2<;>simp[h1]
theorem Yk{p:dG}{s:aI}(h:pz p s){o:Nat}(ho:o<s.ak.length):((s.aC o).aH.any λx=>decide (x.qI<x.jk))= !(pq (s.aC o)):=by
 have hl:∀x∈(s.aC o).aH,x.qI<=x.jk:=λx hx=>by
  obtain⟨k,hk,rfl⟩:=bg hx;have:=(h.aK ho hk).2.2.1.2;unfold aI.aK at this
  rwa [qw hk]at this
 unfold pq;rw[<- GR];generalize (s.aC o).aH=l at hl
 induction l with
 |nil=>rfl
 |cons x l ih=>
  rw[zJ,zJ,ih (λy hy=>hl y (by simp[hy]))]
  congr 1
  have:=hl x (by simp)
  rw[uH];simp
  omega
theorem yU{o:Order}:pq o=true↔∀k,k<o.aH.length->(fG o.aH k).qI=(fG o.aH k).jk:=by
 unfold pq;constructor
 ·intro h k hk;have:=vJ IU h hk;simpa[fG]using this
 ·intro h;refine ET IU λk hk=>?_
  have:=h k hk;unfold fG at this
  simpa using this
theorem jd1{p:dG}(l:List Int)(lo:Int)(hn:0<p.aW.length):(l.length≠p.aW.length/\vF p l lo=false)\/(l.length=p.aW.length/\D8 l<lo/\vF p l lo=false)\/
  (l.length=p.aW.length/\lo<=D8 l/\1048576<yN l/\vF p l lo=false)\/(l.length=p.aW.length/\lo<=D8 l/\yN l<=1048576/\vF p l lo=true):=by
 by_cases h1:l.length=p.aW.length
 ·have hp:0<l.length:=by omega
  have hlo:lo<=D8 l↔∀j,j<l.length->lo<=aZ l j:=by
   unfold D8;rw[OG];exact⟨λh j hj=>h j (by omega),λh j hj=>h j (by omega)⟩
  have hhi:yN l<=1048576↔∀j,j<l.length->aZ l j<=1048576:=by
   unfold yN;rw[OC];exact⟨λh j hj=>h j (by omega),λh j hj=>h j (by omega)⟩
  have hs:vF p l lo=true↔lo<=D8 l/\yN l<=1048576:=by
   rw[qU,hlo,hhi];constructor
   ·rintro⟨_,h⟩;exact⟨λj hj=>(dZ.1 (vJ 0 h hj)).1,λj hj=>(dZ.1 (vJ 0 h hj)).2⟩
   ·rintro⟨h2,h3⟩;exact⟨h1,ET 0 λj hj=>dZ.2 ⟨h2 j hj,h3 j hj⟩⟩
  cases hq:vF p l lo
  ·rw[hq]at hs
   simp only[iV,wB]at hs
   simp only[h1,ni,oJ,ne_eq,rZ,xP,reduceCtorEq,ql,lC];omega
  ·rw[hq]at hs
   simp only[uX]at hs
   simp only[h1,ni,oJ,ne_eq,rZ,xP,reduceCtorEq,ql];omega
 ·refine .inl ⟨h1,?_⟩
  unfold vF;rw[iE h1,vZ]
theorem jcH(x:eX)(l:List eX)(o ln b:Int):dD (x::l) o ln b=if x.aC=o/\x.aK=ln/\x.bin=b then x.n else dD l o ln b:=by
 unfold dD;rw[BN]
 by_cases hk:x.aC=o/\x.aK=ln/\x.bin=b
 ·rw[aB hk,DW.2 hk]
 ·rw[au hk,show vS o ln b x=false by rw[<- nI,DW];exact hk]
theorem Lp{α:Type}{p:α->Bool}{l:List α}(h:∀x∈l,p x=false):l.filter p=[]:=rP.2 λx hx=>by rw[h x hx];simp
theorem jgC{h:eX}(hk:sJ h.aC h.aK h.bin)(F:eX->Int)(f:Int->Int->Int->Int)(hF:∀x,F x=f x.aC x.aK x.bin*x.n):∀ {l:List eX},fine l->KW l->
  (l.map F).sum=((l.filter λx=>decide (fP x<fP h)).map F).sum+f h.aC h.aK h.bin*dD l h.aC h.aK h.bin+((l.filter λx=>decide (fP h<fP x)).map F).sum:=by
 intro l;induction l with
 |nil=>intro _ _;simp[dD]
 |cons x l ih=>
  intro hf hr;have hf':fine l:=λh hm=>hf h (aY _ hm)
  have hr':=rG.1 hr;have ih':=ih hf' hr'.2;have hx:=(nH.1 (hf x (bW ..))).1;rw[dJ,iL,jcH];rcases wR (fP x) (fP h)with h1|h1|h1
  ·have hne:¬(x.aC=h.aC/\x.aK=h.aK/\x.bin=h.bin):=λhe=>by
    rw[FN he]at h1;omega
   rw[au hne,jC (by simpa using h1),kZ (by simp;omega),dJ,iL,ih']
   omega
  ·obtain⟨e1,e2,e3⟩:=Zt hx hk h1;have hlt:(l.filter λx=>decide (fP x<fP h))=[]:=Lp λy hy=>by
    have:=hr'.1 y hy;simp;omega
   have h0:dD l h.aC h.aK h.bin=0:=Ec λy hy he=>by
    have h2:=hr'.1 y hy;rw[FN he]at h2
    omega
   rw[aB ⟨e1,e2,e3⟩,kZ (by simp;omega),kZ (by simp;omega),ih',hlt,h0,hF x,e1,e2,e3]
   simp
  ·have hne:¬(x.aC=h.aC/\x.aK=h.aK/\x.bin=h.bin):=λhe=>by
    rw[FN he]at h1;omega
   have hlt:(l.filter λx=>decide (fP x<fP h))=[]:=Lp λy hy=>by
    have:=hr'.1 y hy;simp;omega
   rw[au hne,kZ (by simp;omega),jC (by simpa using h1),dJ,iL,ih',hlt]
   simp
   omega
theorem jhV{l:List eX}{h:eX}(hl:iI l=true)(hk:sJ h.aC h.aK h.bin)(F:eX->Int)(f:Int->Int->Int->Int)(hF:∀x,F x=f x.aC x.aK x.bin*x.n):
  ((jE l h).map F).sum=(l.map F).sum+f h.aC h.aK h.bin*(h.n - dD l h.aC h.aK h.bin):=by
 obtain⟨hf,hr⟩:=gI.1 hl;rw[jgC hk F f hF hf hr];unfold jE;rw[gJ,gJ,uz,uz,Int.mul_sub];by_cases h0:h.n=0
 ·rw[aB h0,h0];simp
  omega
 ·rw[au h0];simp only[dJ,lD,iL,List.sum_nil,hF h];omega
theorem FT{l:List Order}{o:Nat}(ho:o<l.length)(x:Order)(o':Nat):bK (l.set o x) o'=if o'=o then x else bK l o':=by
 unfold bK;by_cases h:o'=o
 ·subst h;simp[ho]
 ·rw[au h];simp[uy h]
theorem jeC{l:List Line}{k:Nat}(hk:k<l.length)(x:Line)(k':Nat):fG (l.set k x) k'=if k'=k then x else fG l k':=by
 unfold fG;by_cases h:k'=k
 ·subst h;simp[hk]
 ·rw[au h];simp[uy h]
theorem Il{s:aI}{o:Nat}(ho:o<s.ak.length)(k:Nat)(y:Line)(o':Nat):(s.mD o k y).aC o'=if o'=o then {s.aC o with aH:=(s.aC o).aH.set k y}else s.aC o':=FT ho _ _
theorem Nu{s:aI}{o k:Nat}(ho:o<s.ak.length)(hk:k<(s.aC o).aH.length)(y:Line)(o' k':Nat):(s.mD o k y).aK o' k'=if o'=o/\k'=k then y else s.aK o' k':=by
 unfold aI.aK;rw[Il ho];by_cases h:o'=o
 ·subst h;rw[aB rfl];simp only[oJ];exact jeC hk _ _
 ·rw[au h,au (λh'=>h h'.1)]
theorem JY(s:aI)(o k:Nat)(y:Line):(s.mD o k y).ak.length=s.ak.length:=by unfold aI.mD;simp
theorem SL{s:aI}{o:Nat}(ho:o<s.ak.length)(k:Nat)(y:Line)(o':Nat):((s.mD o k y).aC o').eH=(s.aC o').eH:=by
 rw[Il ho];split
 ·rename_i h;rw[h]
 ·rfl
theorem LM{s:aI}{o:Nat}(ho:o<s.ak.length)(k:Nat)(y:Line)(o':Nat):((s.mD o k y).aC o').aH.length=(s.aC o').aH.length:=by
 rw[Il ho];split
 ·rename_i h;rw[h];simp
 ·rfl
theorem NI{s t:aI}(hh:t.aA=s.aA)(hg:∀o k,(t.aK o k).dW=(s.aK o k).dW)(b g:Int):pO t b g=pO s b g:=by
 unfold pO;rw[hh];congr 1
 apply lM;intro h _;unfold xM;rw[hg]
theorem UY{s:aI}{h:eX}(hl:iI s.aA=true)(hk:sJ h.aC h.aK h.bin)(b g:Int):
  pO {s with aA:=jE s.aA h} b g=pO s b g+if h.bin=b/\(s.aK h.aC.toNat h.aK.toNat).dW=g then h.n - dD s.aA h.aC h.aK h.bin else 0:=by
 have:=jhV hl hk (xM s b g) (λo ln b'=>if b'=b/\(s.aK o.toNat ln.toNat).dW=g then 1 else 0) (λx=>by
  unfold xM;split<;>simp)
 have e:pO {s with aA:=jE s.aA h} b g=((jE s.aA h).map (xM s b g)).sum:=rfl
 rw[e,this];congr 1
 split<;>simp
structure lu(p:dG)(s:aI):Prop where
 sane:pz p s
 dW:∀g,g<p.aW.length->xR p s g=true
 aK:∀o k,o<s.ak.length->k<(s.aC o).aH.length->mO s o k=true
theorem oV{p:dG}{s:aI}:aO p s=0↔lu p s/\∀o,o<s.ak.length->¬((s.aC o).eH=1/\pq (s.aC o)=true):=by
 rw[gB,QV];constructor
 ·rintro⟨h1,h2,h3⟩;exact⟨⟨h1,h2,λo k ho hk=>(sK.1 (h3 o ho)).2 k hk⟩,λo ho=>(sK.1 (h3 o ho)).1⟩
 ·rintro⟨⟨h1,h2,h3⟩,h4⟩;exact⟨h1,h2,λo ho=>sK.2 ⟨h4 o ho,λk hk=>h3 o k ho hk⟩⟩
theorem jm{p:dG}{s:aI}(h:aO p s=0):lu p s:=(oV.1 h).1
theorem jiO{s:aI}{o:Nat}{x:Line}(hx:x∈(s.aC o).aH):∃k,k<(s.aC o).aH.length/\s.aK o k=x:=by
 obtain⟨k,hk,rfl⟩:=bg hx;exact⟨k,hk,by unfold aI.aK;rw[qw hk]⟩
theorem pz.of{p:dG}{s:aI}(h1:iU p s.on=0)(h2:s.ak.length<=4)(h3:s.aF.length<=8)(h4:∀o,o<s.ak.length->(1<=(s.aC o).aH.length/\(s.aC o).aH.length<=3)/\0<=(s.aC o).eH/\(s.aC o).eH<=2)
  (h5:∀o k,o<s.ak.length->k<(s.aC o).aH.length->ug p (s.aK o k)=true) (h6:iI s.aA=true) (h7:∀x∈s.aA,zy p s x=true) (h8:∀x∈s.aF,sZ p x=true)
  (h9:vF p s.jf 0=true) (h10:vF p s.O 0=true) (h11:vF p s.dB (-1048576)=true):pz p s:=by
 refine⟨h1,D7.2 ⟨h2,h3,ET Ig λo ho=>dZ.2 ?_⟩,eG.2 ⟨ET Ig λo ho=>FQ.2 ⟨(h4 o ho).2,bJ.2 λx hx=>?_⟩,h6,bJ.2 h7,bJ.2 h8,h9,h10,h11⟩⟩
 ·have:=(h4 o ho).1;unfold aI.aC bK at this
  omega
 ·obtain⟨k,hk,rfl⟩:=jiO (s:=s) (o:=o) hx;exact h5 o k ho hk
theorem lu.of{p:dG}{s:aI}(h:pz p s)(h1:∀g,g<p.aW.length->Du s.on g=aZ s.jf g - aZ s.O g+aZ s.dB g)(h2:∀b g:Nat,b<p.dP.length->g<p.aW.length->bound s b g<=cell s.on b g)
  (h3:∀o k,o<s.ak.length->k<(s.aC o).aH.length->mO s o k=true):lu p s:=
 ⟨h,λg hg=>yO.2 ⟨h1 g hg,λb hb=>h2 b g hb hg⟩,h3⟩
namespace lu
variable {p:dG} {s:aI} (h:lu p s)
include h
theorem sum{g:Nat}(hg:g<p.aW.length):Du s.on g=aZ s.jf g - aZ s.O g+aZ s.dB g:=(yO.1 (h.dW g hg)).1
theorem bnd{b g:Nat}(hb:b<p.dP.length)(hg:g<p.aW.length):bound s b g<=cell s.on b g:=(yO.1 (h.dW g hg)).2 b hb
theorem BU{o k:Nat}(ho:o<s.ak.length)(hk:k<(s.aC o).aH.length):(s.aK o k).qI+(s.aK o k).eU+kept s.aA o k=(if(s.aC o).eH=0 then 0 else(s.aK o k).jk)/\¬((s.aC o).eH=2/\0<kept s.aA o k):=uP.1 (h.aK o k ho hk)
theorem PN{b g:Nat}(hb:b<p.dP.length)(hg:g<p.aW.length):0<=lW s b g/\lW s b g<=cell s.on b g:=by
 have h1:=h.bnd hb hg;have h2:=F6 h.sane b g;unfold lW;simp only[dn];omega
end lu
section
variable {p:dG} {s:aI} {o k b:Nat} {m:Int}
theorem Mc{l:List eX}(hl:iI l=true)(o ln b:Int):0<=dD l o ln b:=(Gn (gI.1 hl).1 (gI.1 hl).2 o ln b).1
theorem UO(hs:pz p s)(o k b:Int):dD s.aA o k b<=pO s b (s.aK o.toNat k.toNat).dW:=by
 by_cases h0:dD s.aA o k b=0
 ·rw[h0];have:=ED hs b (s.aK o.toNat k.toNat).dW s.aA.length;rw[H8]at this
  omega
 ·obtain⟨h1,h2⟩:=gI.1 hs.aA;obtain⟨hk,hm⟩:=Ee h1 h2 h0;have h3:∀l:List eX,(∀x∈l,1<=x.n)->∀x∈l,xM s b (s.aK o.toNat k.toNat).dW x<=(l.map (xM s b (s.aK o.toNat k.toNat).dW)).sum/\0<=(l.map (xM s b (s.aK o.toNat k.toNat).dW)).sum:=by
   intro l;induction l with
   |nil=>simp
   |cons y l ih=>
    intro hn x hx;have hy:=hn y (by simp)
    have hyn:0<=xM s b (s.aK o.toNat k.toNat).dW y:=by unfold xM;split<;>omega
    have hl0:0<=(l.map (xM s b (s.aK o.toNat k.toNat).dW)).sum:=by
     cases l with
     |nil=>simp
     |cons z l=>exact(ih (λx hx=>hn x (by simp at hx ⊢;exact .inr hx)) z (by simp)).2
    rw[dJ,iL];rcases fF.1 hx with rfl|hx
    ·exact⟨by omega,by omega⟩
    ·have:=ih (λx hx=>hn x (aY _ hx)) x hx
     omega
  have h4:=(h3 s.aA (λx hx=>(nH.1 (h1 x hx)).2.1) _ hm).1
  have h5:xM s b (s.aK o.toNat k.toNat).dW ⟨o,k,b,dD s.aA o k b⟩=dD s.aA o k b:=by
   unfold xM;exact aB ⟨rfl,rfl⟩
  rw[h5]at h4
  exact h4
theorem yP(hs:pz p s)(b g:Int):0<=mF s.aF b g:=by
 have:=Io hs b g s.aF.length;rw[Lj]at this
 exact this.1
theorem J6(hs:pz p s)(ho:o<s.ak.length)(hk:k<(s.aC o).aH.length)(hb:b<p.dP.length):sJ o k b:=by
 have h4:=hs.nX;have h3:=hs.rE ho;have hc:=hs.counts;unfold sJ;omega
structure Fits(p:dG)(s:aI)(o k b:Nat)(m:Int):Prop where
 ho:o<s.ak.length
 hk:k<(s.aC o).aH.length
 hb:b<p.dP.length
 eH:(s.aC o).eH=1
 m1:1<=m
 av:m<=lW s b (s.aK o k).dW
 eU:m<=(s.aK o k).eU
variable (h:lu p s) (f:Fits p s o k b m)
include h f
theorem ZT:((s.aK o k).dW.toNat:Int)=(s.aK o k).dW/\(s.aK o k).dW.toNat<p.aW.length:=by
 have:=(h.sane.aK f.ho f.hk).1;omega
theorem MK:0<=dD s.aA o k b/\dD s.aA o k b+m<=200:=by
 obtain⟨e,hg⟩:=ZT h f;have h1:=UO h.sane o k b;have h2:=yP h.sane b (s.aK o k).dW;have h3:=f.av;have h4:=h.sane.cell f.hb hg;unfold lW bound at h3
 simp only[dn]at h1 h3
 exact⟨Mc h.sane.aA _ _ _,by omega⟩
theorem YQ:iI (uj s o k b m).aA=true:=by
 have:=MK h f;have hm:=f.m1;exact VD h.sane.aA (J6 h.sane f.ho f.hk f.hb) ⟨by show 0<=dD s.aA o k b+m;omega,this.2⟩
theorem NG(o' k' b':Int):dD (uj s o k b m).aA o' k' b'=dD s.aA o' k' b'+if(o:Int)=o'/\(k:Int)=k'/\(b:Int)=b' then m else 0:=by
 have:=MK h f;have hm:=f.m1;have e:=FW (h:=⟨o,k,b,dD s.aA o k b+m⟩) h.sane.aA (J6 h.sane f.ho f.hk f.hb) ⟨by show 0<=dD s.aA o k b+m;omega,this.2⟩ o' k' b'
 refine e.trans ?_
 simp only;split
 ·rename_i hq
  obtain⟨rfl,rfl,rfl⟩:=hq;rfl
 ·omega
theorem Xx(o' k':Int):kept (uj s o k b m).aA o' k'=kept s.aA o' k'+if(o:Int)=o'/\(k:Int)=k' then m else 0:=by
 have:=MK h f;have hm:=f.m1;have e:=ZH (h:=⟨o,k,b,dD s.aA o k b+m⟩) h.sane.aA (J6 h.sane f.ho f.hk f.hb) ⟨by show 0<=dD s.aA o k b+m;omega,this.2⟩ o' k'
 refine e.trans ?_
 simp only;congr 1
 split<;>omega
omit h in
theorem ND(o' k':Nat):(uj s o k b m).aK o' k'=if o'=o/\k'=k then {s.aK o k with eU:=(s.aK o k).eU - m}else s.aK o' k':=
 Nu (s:={s with aA:=jE s.aA ⟨o,k,b,dD s.aA o k b+m⟩}) f.ho f.hk _ o' k'
omit h in
theorem Rn(o':Nat):((uj s o k b m).aC o').eH=(s.aC o').eH:=SL (s:={s with aA:=jE s.aA ⟨o,k,b,dD s.aA o k b+m⟩}) f.ho _ _ _
omit h in
theorem II(o':Nat):((uj s o k b m).aC o').aH.length=(s.aC o').aH.length:=LM (s:={s with aA:=jE s.aA ⟨o,k,b,dD s.aA o k b+m⟩}) f.ho _ _ _
omit h f in
theorem EC:(uj s o k b m).ak.length=s.ak.length:=JY _ _ _ _
omit h in
theorem Fg(o' k':Nat):((uj s o k b m).aK o' k').dW=(s.aK o' k').dW/\((uj s o k b m).aK o' k').jk=(s.aK o' k').jk/\((uj s o k b m).aK o' k').qI=(s.aK o' k').qI:=by
 rw[ND f];split
 ·rename_i hq
  obtain⟨rfl,rfl⟩:=hq;exact⟨rfl,rfl,rfl⟩
 ·exact⟨rfl,rfl,rfl⟩
theorem IJ(b' g:Int):bound (uj s o k b m) b' g=bound s b' g+if(b:Int)=b'/\(s.aK o k).dW=g then m else 0:=by
 have e1:pO (uj s o k b m) b' g=pO {s with aA:=jE s.aA ⟨o,k,b,dD s.aA o k b+m⟩} b' g:=
  NI (s:={s with aA:=jE s.aA ⟨o,k,b,dD s.aA o k b+m⟩}) (t:=uj s o k b m) rfl (λo' k'=>(Fg f o' k').1) b' g
 have e2:=UY (s:=s) (h:=⟨o,k,b,dD s.aA o k b+m⟩) h.sane.aA (J6 h.sane f.ho f.hk f.hb) b' g;unfold bound;rw[e1,e2];simp only[dn];have:mF (uj s o k b m).aF b' g=mF s.aF b' g:=rfl;rw[this];split<;>omega
theorem jcT(b':Nat)(g:Int):lW (uj s o k b m) b' g=lW s b' g - if b=b'/\(s.aK o k).dW=g then m else 0:=by
 unfold lW;rw[IJ h f];have:(uj s o k b m).on=s.on:=rfl;rw[this];simp only[Int.natCast_inj];omega
theorem OQ:lu p (uj s o k b m):=by
 obtain⟨e,hg⟩:=ZT h f;have hm:=f.m1;have hbk:=f.eU;have hav:=f.av;refine lu.of (pz.of h.sane.shelf (by rw[EC];exact h.sane.nX) h.sane.uf (λo' ho'=>?_) (λo' k' ho' hk'=>?_) (YQ h f) (λx hx=>?_) (λx hx=>bJ.1 (eG.1 h.sane.form).2.2.2.1 x hx)
  (eG.1 h.sane.form).2.2.2.2.1 (eG.1 h.sane.form).2.2.2.2.2.1 (eG.1 h.sane.form).2.2.2.2.2.2) (λg hg=>h.sum hg) (λb' g hb' hg'=>?_) (λo' k' ho' hk'=>?_)
 ·rw[EC]at ho'
  rw[II f,Rn f];exact⟨h.sane.rE ho',h.sane.eH ho'⟩
 ·rw[EC]at ho'
  rw[II f]at hk'
  have hl:=h.sane.aK ho' hk';rw[ND f,rO];split
  ·rename_i hq
   obtain⟨rfl,rfl⟩:=hq;simp only;omega
  ·exact hl
 ·have hin:zy p s x=true:=by
   rcases JM.1 hx with⟨h1,_⟩|⟨rfl,_⟩
   ·exact bJ.1 (eG.1 h.sane.form).2.2.1 x h1
   ·refine og.2 ⟨?_,?_,?_⟩
    ·have:=f.ho;show(o:Int)<_;omega
    ·have:=f.hk;show(k:Int)<_;simp only[dn];omega
    ·have:=f.hb;show(b:Int)<_;omega
  have:=og.1 hin;exact og.2 ⟨by rw[EC];exact this.1,by rw[II f];exact this.2.1,this.2.2⟩
 ·have h1:=h.bnd hb' hg';rw[IJ h f];have:(uj s o k b m).on=s.on:=rfl;rw[this];split
  ·rename_i hq
   obtain⟨hq1,hq2⟩:=hq;have hbb:b=b':=by omega
   subst hbb;rw[hq2]at hav
   unfold lW at hav
   simp only[dn]at hav
   omega
  ·omega
 ·rw[EC]at ho'
  rw[II f]at hk'
  obtain⟨l1,l2⟩:=h.BU ho' hk';obtain⟨g1,g2,g3⟩:=Fg (m:=m) f o' k';refine uP.2 ?_
  rw[g2,g3,Xx h f,Rn f];have hb2:((uj s o k b m).aK o' k').eU=(s.aK o' k').eU - if(o:Int)=o'/\(k:Int)=k' then m else 0:=by
   rw[ND f];by_cases hq:o'=o/\k'=k
   ·obtain⟨rfl,rfl⟩:=hq;simp
   ·rw[au hq,au (by omega)]
    omega
  rw[hb2];refine⟨by omega,?_⟩
  rintro⟨hk2,wU⟩;by_cases hq:(o:Int)=o'/\(k:Int)=k'
  ·have:o=o':=by omega
   subst this;have:=f.eH;omega
  ·rw[au hq]at wU
   exact l2 ⟨hk2,by omega⟩
end
theorem aI.ext'{a b:aI}(h1:a.on=b.on)(h2:a.ak=b.ak)(h3:a.aA=b.aA)(h4:a.aF=b.aF)(h5:a.jf=b.jf)(h6:a.O=b.O)(h7:a.dB=b.dB):a=b:=by
 cases a;cases b;simp only at h1 h2 h3 h4 h5 h6 h7;subst h1 h2 h3 h4 h5 h6 h7;rfl
structure Held(p:dG)(s t:aI)(o k:Nat)(d:Int):Prop where
 right:lu p t
 on:t.on=s.on
 aF:t.aF=s.aF
 jf:t.jf=s.jf
 O:t.O=s.O
 dB:t.dB=s.dB
 ak:t.ak.length=s.ak.length
 eH:∀o',(t.aC o').eH=(s.aC o').eH
 aH:∀o',(t.aC o').aH.length=(s.aC o').aH.length
 aK:∀o' k',(t.aK o' k').dW=(s.aK o' k').dW/\(t.aK o' k').jk=(s.aK o' k').jk/\(t.aK o' k').qI=(s.aK o' k').qI
 eU:∀o' k',(t.aK o' k').eU=(s.aK o' k').eU - if o'=o/\k'=k then d else 0
 dD:∀o' k' b':Int,¬(o'=(o:Int)/\k'=(k:Int))->Wh.dD t.aA o' k' b'=Wh.dD s.aA o' k' b'
 kept:∀o' k':Int,Wh.kept t.aA o' k'=Wh.kept s.aA o' k'+if o'=(o:Int)/\k'=(k:Int)then d else 0
 other:∀b g:Int,g≠(s.aK o k).dW->Wh.bound t b g=Wh.bound s b g
 more:∀b g:Int,Wh.bound s b g<=Wh.bound t b g
 least:∀o' k' b':Int,Wh.dD s.aA o' k' b'<=Wh.dD t.aA o' k' b'
namespace Held
variable {p:dG} {s t u:aI} {o k:Nat} {d d':Int}
theorem refl(h:lu p s):Held p s s o k 0:=by
 refine⟨h,rfl,rfl,rfl,rfl,rfl,rfl,λ_=>rfl,λ_=>rfl,λ_ _=>⟨rfl,rfl,rfl⟩,λ_ _=>by split<;>omega,λ_ _ _ _=>rfl,λ_ _=>by split<;>omega,λ_ _ _=>rfl,λ_ _=>iT _,λ_ _ _=>iT _⟩
theorem trans(h:Held p s t o k d)(h':Held p t u o k d'):Held p s u o k (d+d'):=by
 refine⟨h'.right,h'.on.trans h.on,h'.aF.trans h.aF,h'.jf.trans h.jf,h'.O.trans h.O,h'.dB.trans h.dB,h'.ak.trans h.ak,λo'=>(h'.eH o').trans (h.eH o'),λo'=>(h'.aH o').trans (h.aH o'),λo' k'=>?_,λo' k'=>?_,λo' k' b' hn=>(h'.dD o' k' b' hn).trans (h.dD o' k' b' hn),λo' k'=>?_,λb g hg=>?_,λb g=>xX (h.more b g) (h'.more b g),λ_ _ _=>xX (h.least _ _ _) (h'.least _ _ _)⟩
 ·obtain⟨a1,a2,a3⟩:=h.aK o' k';obtain⟨b1,b2,b3⟩:=h'.aK o' k';exact⟨b1.trans a1,b2.trans a2,b3.trans a3⟩
 ·rw[h'.eU,h.eU];split<;>omega
 ·rw[h'.kept,h.kept];split<;>omega
 ·rw[h'.other b g (by rw[(h.aK o k).1];exact hg),h.other b g hg]
theorem one{b:Nat}{m:Int}(h:lu p s)(f:Fits p s o k b m):Held p s (uj s o k b m) o k m:=by
 have hm:=f.m1;refine⟨OQ h f,rfl,rfl,rfl,rfl,rfl,EC,λo'=>Rn f o',λo'=>II f o',λo' k'=>Fg f o' k',λo' k'=>?_,λo' k' b' hn=>?_,λo' k'=>?_,λb' g hg=>?_,λb' g=>?_,λo' k' b'=>?_⟩
 ·rw[ND f];split
  ·rename_i hq
   obtain⟨rfl,rfl⟩:=hq;rfl
  ·omega
 ·rw[NG h f,au (by omega),je]
 ·rw[Xx h f];congr 1
  split<;>split<;>omega
 ·rw[IJ h f,au (λhq=>hg hq.2.symm),je]
 ·rw[IJ h f];split<;>omega
 ·rw[NG h f];split<;>omega
theorem cast(h:Held p s t o k d)(e:d=d'):Held p s t o k d':=e ▸ h
theorem jkN(h:Held p s t o k d)(b g:Int):lW t b g<=lW s b g:=by
 have:=h.more b g;unfold lW;rw[h.on];omega
theorem pq(h:Held p s t o k d){o':Nat}:Wh.pq (t.aC o')=Wh.pq (s.aC o'):=by
 rw[uH,yU,yU,h.aH];constructor
 ·intro hh k' hk';have:=hh k' hk';have e:=h.aK o' k';unfold aI.aK at e
  rw[e.2.1,e.2.2]at this
  exact this
 ·intro hh k' hk';have:=hh k' hk';have e:=h.aK o' k';unfold aI.aK at e
  rw[e.2.1,e.2.2];exact this
end Held
section
variable {p:dG} {o k:Nat} {but:Int}
structure May(s:aI)(o k:Nat)(n:Int):Prop where
 ho:o<s.ak.length
 hk:k<(s.aC o).aH.length
 eH:(s.aC o).eH=1
 n0:0<=n
 eU:n<=(s.aK o k).eU
theorem May.held{s t:aI}{n d:Int}(h:May s o k n)(hh:Held p s t o k d)(hd:d<=n):May t o k (n - d):=by
 refine⟨by rw[hh.ak];exact h.ho,by rw[hh.aH];exact h.hk,by rw[hh.eH];exact h.eH,by omega,?_⟩
 rw[hh.eU,aB ⟨rfl,rfl⟩];have:=h.eU;omega
theorem May.fits{s:aI}{n:Int}(h:May s o k n){b:Nat}{m:Int}(hb:b<p.dP.length)(h1:1<=m)(hn:m<=n)(ha:m<=lW s b (s.aK o k).dW):Fits p s o k b m:=
 ⟨h.ho,h.hk,hb,h.eH,h1,ha,by have:=h.eU;omega⟩
theorem May.dW{s:aI}{n:Int}(h:May s o k n)(hs:lu p s):((s.aK o k).dW.toNat:Int)=(s.aK o k).dW/\(s.aK o k).dW.toNat<p.aW.length:=by
 have:=(hs.sane.aK h.ho h.hk).1;omega
theorem May.lW{s:aI}{n:Int}(h:May s o k n)(hs:lu p s){b:Nat}(hb:b<p.dP.length):0<=lW s b (s.aK o k).dW:=by
 obtain⟨e,hg⟩:=h.dW hs;have:=(hs.PN hb hg).1;rwa [e]at this
theorem zM{b:Nat}{r:List Nat}{s:aI}{n:Int}(h:(b:Int)=but\/min n (lW s b (s.aK o k).dW)<1):uM o k but (b::r) s n=uM o k but r s n:=by
 rw[uM];exact aB h
theorem Hl{b:Nat}{r:List Nat}{s:aI}{n:Int}(h:¬(b:Int)=but)(h1:1<=min n (lW s b (s.aK o k).dW)):
  uM o k but (b::r) s n=uM o k but r (uj s o k b (min n (lW s b (s.aK o k).dW))) (n - min n (lW s b (s.aK o k).dW)):=by
 rw[uM];exact au (by omega)
theorem KQ:∀ {bs:List Nat} {s:aI} {n:Int},n<1->uM o k but bs s n=(s,n)
 |[],_,_,_=>rfl
 |b::r,s,n,h=>by rw[zM (.inr (by omega)),KQ h]
theorem DV:∀ {bs:List Nat} {s:aI} {n:Int},lu p s->(∀b∈bs,b<p.dP.length)->May s o k n->
  Held p s (uM o k but bs s n).1 o k (n - (uM o k but bs s n).2)/\0<=(uM o k but bs s n).2/\(uM o k but bs s n).2<=n
 |[],s,n,h,_,hm=>by
  have:=hm.n0;exact⟨(Held.refl h).cast (by show(0:Int)=n - n;omega),this,iT _⟩
 |b::r,s,n,h,hb,hm=>by
  by_cases hq:(b:Int)=but\/min n (lW s b (s.aK o k).dW)<1
  ·rw[zM hq];exact DV h (λx hx=>hb x (aY _ hx)) hm
  ·rw[Hl (by omega) (by omega)]
   have f:=hm.fits (p:=p) (b:=b) (m:=min n (lW s b (s.aK o k).dW)) (hb b (bW ..)) (by omega) (by omega) (by omega)
   have h1:=Held.one h f;obtain⟨h2,h3,h4⟩:=DV h1.right (λx hx=>hb x (aY _ hx)) (hm.held h1 (by omega))
   exact⟨(h1.trans h2).cast (by omega),h3,by omega⟩
theorem Gg:∀ {bs:List Nat} {s:aI} {n:Int},lu p s->(∀b∈bs,b<p.dP.length)->May s o k n->∀(b:Nat),(b ∉ bs\/(b:Int)=but)->∀g:Int,bound (uM o k but bs s n).1 b g=bound s b g
 |[],s,n,h,_,hm=>λ_ _ _=>rfl
 |c::r,s,n,h,hb,hm=>λb hnot g=>by
  have jni:b ∉ r\/(b:Int)=but:=hnot.imp (λh1 h2=>h1 (aY _ h2)) id
  by_cases hq:(c:Int)=but\/min n (lW s c (s.aK o k).dW)<1
  ·rw[zM hq];exact Gg h (λx hx=>hb x (aY _ hx)) hm b jni g
  ·rw[Hl (by omega) (by omega)]
   have f:=hm.fits (p:=p) (b:=c) (m:=min n (lW s c (s.aK o k).dW)) (hb c (bW ..)) (by omega) (by omega) (by omega)
   have h1:=Held.one h f;rw[Gg h1.right (λx hx=>hb x (aY _ hx)) (hm.held h1 (by omega)) b jni g,IJ h f,au,je]
   rintro⟨e,_⟩;have:c=b:=by omega
   subst this;rcases hnot with h2|h2
   ·exact h2 (bW ..)
   ·omega
theorem Ov:∀ {bs:List Nat} {s:aI} {n:Int},bs.Nodup->lu p s->(∀b∈bs,b<p.dP.length)->May s o k n->0<(uM o k but bs s n).2->∀b∈bs,(b:Int)≠but->lW (uM o k but bs s n).1 b (s.aK o k).dW=0
 |[],s,n,_,h,_,hm=>λ_ b hb=>by simp at hb
 |c::r,s,n,hnd,h,hb,hm=>λwU b hbm hne=>by
  have hnd':=uD.1 hnd;have hav:=hm.lW h (hb c (bW ..));by_cases hq:(c:Int)=but\/min n (lW s c (s.aK o k).dW)<1
  ·rw[zM hq]at wU ⊢
   have hle:=(DV (but:=but) h (λx hx=>hb x (aY _ hx)) hm).2.2
   rcases fF.1 hbm with rfl|hbm
   ·have hoth:=Gg (but:=but) h (λx hx=>hb x (aY _ hx)) hm b (.inl hnd'.1) (s.aK o k).dW
    have hon:=(DV (but:=but) h (λx hx=>hb x (aY _ hx)) hm).1.on
    unfold lW at hq hav ⊢
    rw[hoth,hon];omega
   ·exact Ov hnd'.2 h (λx hx=>hb x (aY _ hx)) hm wU b hbm hne
  ·rw[Hl (by omega) (by omega)]at wU ⊢
   have f:=hm.fits (p:=p) (b:=c) (m:=min n (lW s c (s.aK o k).dW)) (hb c (bW ..)) (by omega) (by omega) (by omega)
   have h1:=Held.one h f;have hm1:=hm.held h1 (by omega)
   have hle:=(DV (but:=but) h1.right (λx hx=>hb x (aY _ hx)) hm1).2.2
   rcases fF.1 hbm with rfl|hbm
   ·have hoth:=Gg (but:=but) h1.right (λx hx=>hb x (aY _ hx)) hm1 b (.inl hnd'.1) (s.aK o k).dW
    have hon:=(DV (but:=but) h1.right (λx hx=>hb x (aY _ hx)) hm1).1.on
    have ha1:=jcT h f b (s.aK o k).dW;rw[aB ⟨rfl,rfl⟩]at ha1
    have e:lW (uM o k but r (uj s o k b (min n (lW s b (s.aK o k).dW))) (n - min n (lW s b (s.aK o k).dW))).1 b (s.aK o k).dW=lW (uj s o k b (min n (lW s b (s.aK o k).dW))) b (s.aK o k).dW:=by
     unfold lW at hoth hon ⊢
     rw[hoth,hon]
    rw[e,ha1];omega
   ·have:=Ov hnd'.2 h1.right (λx hx=>hb x (aY _ hx)) hm1 wU b hbm hne
    rwa [(h1.aK o k).1]at this
end
theorem jgz(p:dG):(way p).Nodup:=(jao p).imp λh=>h.1
theorem JO(p:dG):∀b∈way p,b<p.dP.length:=λ_ h=>jf6.1 h
theorem QT{p:dG}{s:aI}{o k:Nat}{n but:Int}(h:lu p s)(hm:May s o k n):
  Held p s (qM p s o k n but).1 o k (n - (qM p s o k n but).2)/\0<=(qM p s o k n but).2/\(qM p s o k n but).2<=n:=DV h (JO p) hm
theorem Wp{p:dG}{s:aI}{o k:Nat}{n but:Int}(h:lu p s)(hm:May s o k n)(hl:0<(qM p s o k n but).2){b:Nat}(hb:b<p.dP.length)(hne:(b:Int)≠but):lW (qM p s o k n but).1 b (s.aK o k).dW=0:=
 Ov (jgz p) h (JO p) hm hl b (jf6.2 hb) hne
theorem jgB{p:dG}{s:aI}{o k b:Nat}{n:Int}(h:lu p s)(hm:May s o k n)(g:Int):bound (qM p s o k n b).1 b g=bound s b g:=Gg h (JO p) hm b (.inr rfl) g
theorem jbs{p:dG}{b:Int}(h:lK p b=true):∃n:Nat,b=n/\n<p.dP.length:=by
 have:=zA.1 h;exact⟨b.toNat,by omega,by omega⟩
theorem XO{p:dG}{g:Int}(h:iO p g=true):∃n:Nat,g=n/\n<p.aW.length:=by
 have:=wI.1 h;exact⟨g.toNat,by omega,by omega⟩
theorem Md(n i:Nat):aZ (List.replicate n 0) i=0:=by
 unfold aZ;by_cases h:i<n<;>simp[h]
theorem jdL(n m b g:Nat):cell (List.replicate n (List.replicate m 0)) b g=0:=by
 unfold cell fO;by_cases h:b<n
 ·simp[h,Md]
 ·simp[h,aZ]
theorem Wx{f:Nat->Int}{n:Nat}(h:∀k,k<n->f k=0):ny f n=0:=by
 induction n with
 |zero=>rfl
 |succ n ih=>
  show ny f n+f n=0;rw[ih λk hk=>h k (by omega),h n (by omega)]
  rfl
theorem IV{p:dG}(h:fU p=0):aO p (begin p)=0:=by
 have hc:=oI h;have hsum:vF p (List.replicate p.aW.length 0) 0=true:=qU.2 ⟨by simp,ET 0 λk hk=>by
  have:=Md p.aW.length k;unfold aZ at this
  rw[this];rfl⟩
 have jrB:vF p (List.replicate p.aW.length 0) (-1048576)=true:=qU.2 ⟨by simp,ET 0 λk hk=>by
  have:=Md p.aW.length k;unfold aZ at this
  rw[this];rfl⟩
 refine oV.2 ⟨lu.of (pz.of ?_ (by show(0:Nat)<=4;omega) (by show(0:Nat)<=8;omega) (λo ho=>by cases ho) (λo k ho=>by cases ho) rfl (λx hx=>by cases hx) (λx hx=>by cases hx) hsum hsum jrB) (λg hg=>?_) (λb g hb hg=>?_) (λo k ho=>by cases ho),λo ho=>by cases ho⟩
 ·refine PG h (by simp[begin]) λk hk=>?_
  have hk':k<p.dP.length:=by simpa[begin]using hk
  have e:fO (begin p).on k=List.replicate p.aW.length 0:=by simp[begin,fO,hk']
  rw[e];refine Zq (by simp) λj hj=>?_
  rw[Md];rfl
 ·show Du (List.replicate p.dP.length (List.replicate p.aW.length 0)) g=aZ (List.replicate p.aW.length 0) g - aZ (List.replicate p.aW.length 0) g+aZ (List.replicate p.aW.length 0) g;rw[Md];exact Wx λk _=>jdL _ _ _ _
 ·show(0:Int)<=cell (List.replicate p.dP.length (List.replicate p.aW.length 0)) b g;rw[jdL];exact iT _
theorem Rq{s t:aI}(hh:t.aA=s.aA)(hg:∀x∈s.aA,(t.aK x.aC.toNat x.aK.toNat).dW=(s.aK x.aC.toNat x.aK.toNat).dW)(b g:Int):pO t b g=pO s b g:=by
 unfold pO;rw[hh];congr 1
 apply lM;intro h hm;unfold xM;rw[hg h hm]
theorem pU{on:List (List Int)}{b g b' g':Nat}{n:Int}(hb:b<on.length)(hg:g<(fO on b).length):cell (setCell on b g n) b' g'=if b'=b/\g'=g then n else cell on b' g':=jdK hb hg
theorem EX{on:List (List Int)}{b g:Nat}{n:Int}(hb:b<on.length)(hg:g<(fO on b).length)(g':Nat):Du (setCell on b g n) g'=Du on g'+if g'=g then n - cell on b g else 0:=by
 unfold Du;rw[qj];by_cases h:g'=g
 ·subst h;rw[aB rfl];refine FK (i:=b) hb (λk hk hne=>?_) ?_
  ·show cell _ k g'=_;rw[pU hb hg,au (by omega)]
  ·show cell _ b g'=_;rw[pU hb hg,aB ⟨rfl,rfl⟩];omega
 ·rw[au h,je];refine zN λk hk=>?_
  show cell (setCell on b g n) k g'=cell on k g';rw[pU hb hg,au (by omega)]
theorem Na{p:dG}{l:List Int}{lo:Int}(h:vF p l lo=true){g:Nat}(hg:g<l.length){n:Int}(h1:lo<=n)(h2:n<=1048576):vF p (l.set g n) lo=true:=by
 obtain⟨h3,h4⟩:=qU.1 h;refine qU.2 ⟨by simpa using h3,ET 0 λk hk=>?_⟩
 have e:(l.set g n).getD k 0=if k=g then n else aZ l k:=JE hg
 rw[e];split
 ·exact dZ.2 ⟨h1,h2⟩
 ·exact vJ 0 h4 (by simpa using hk)
theorem LH{p:dG}{s:aI}{b g n:Int}(h:(rD p s b g n).2=0):
  aO p s=0/\lK p b=true/\iO p g=true/\(1<=n/\n<=200)/\n*aZ p.aW g.toNat<=free p s b/\cell s.on b.toNat g.toNat+iC s b g+n<=200/\aZ s.jf g.toNat+n<=1048576/\
  (rD p s b g n).1={s with on:=setCell s.on b.toNat g.toNat (cell s.on b.toNat g.toNat+n),jf:=s.jf.set g.toNat (aZ s.jf g.toNat+n)}:=by
 unfold rD at h ⊢
 by_cases h1:aO p s=0
 ·rw[au (λhn=>hn h1)]at h ⊢
  by_cases h2:(lK p b&&iO p g&&dM n 1 200)=true
  ·rw[au (by rw[h2];simp)]at h ⊢
   split at h
   ·simp at h
   ·rename_i h3
    rw[au h3];split at h
    ·simp at h
    ·rename_i h4
     rw[au h4];rw[dF,dF,dZ]at h2
     exact⟨h1,h2.1.1,h2.1.2,h2.2,by omega,by omega,by omega,rfl⟩
  ·rw[aB (by rw[nI]at h2;rw[h2];rfl)]at h
   simp at h
 ·rw[aB h1]at h
  exact absurd h h1
theorem received{p:dG}{s:aI}{b g:Nat}{n:Int}(h:aO p s=0)(hb:b<p.dP.length)(hg:g<p.aW.length)(hn:1<=n)(h2:cell s.on b g+iC s b g+n<=200)(h3:aZ s.jf g+n<=1048576):
  aO p {s with on:=setCell s.on b g (cell s.on b g+n),jf:=s.jf.set g (aZ s.jf g+n)}=0:=by
 obtain⟨hr,LP⟩:=oV.1 h;have hs:=hr.sane;have hbl:b<s.on.length:=by rw[hs.sO];exact hb
 have hgl:g<(fO s.on b).length:=by rw[hs.rowLen hb];exact hg
 have hgi:g<s.jf.length:=by rw[hs.jf.1];exact hg
 have Aj:=hs.cell hb hg;have hinn:=hs.jf.2 hg;have hcom:=yh hs b g;refine oV.2 ⟨lu.of (pz.of ?_ hs.nX hs.uf (λo ho=>⟨hs.rE ho,hs.eH ho⟩) (λo k ho hk=>rO.2 (hs.aK ho hk)) hs.aA (λx hx=>bJ.1 (eG.1 hs.form).2.2.1 x hx) (λx hx=>bJ.1 (eG.1 hs.form).2.2.2.1 x hx)
  (Na (eG.1 hs.form).2.2.2.2.1 hgi (by omega) h3) (eG.1 hs.form).2.2.2.2.2.1 (eG.1 hs.form).2.2.2.2.2.2) (λg' hg'=>?_) (λb' g' hb' hg'=>?_) hr.aK,LP⟩
 ·exact jR.2 ⟨hs.plan,Nc (jR.1 hs.shelf).2 (by omega) hb hg⟩
 ·show Du (setCell s.on b g (cell s.on b g+n)) g'=aZ (s.jf.set g (aZ s.jf g+n)) g' - aZ s.O g'+aZ s.dB g';rw[EX hbl hgl,JE hgi,hr.sum hg'];by_cases e:g'=g
  ·subst e;rw[aB rfl,aB rfl];omega
  ·rw[au e,au e];omega
 ·show bound s b' g'<=cell (setCell s.on b g (cell s.on b g+n)) b' g';have:=hr.bnd hb' hg';rw[pU hbl hgl];split
  ·rename_i e
   obtain⟨rfl,rfl⟩:=e;omega
  ·exact this
theorem jav{p:dG}{s:aI}{b g n:Int}(h:(rD p s b g n).2=0):
  aO p (rD p s b g n).1=0/\aO p s=0/\lK p b=true/\iO p g=true/\lW (rD p s b g n).1 b g=lW s b g+n/\0<=free p (rD p s b g n).1 b:=by
 obtain⟨h1,h2,h3,h4,h5,h6,h7,h8⟩:=LH h;have hr:=jm h1;obtain⟨bn,rfl,hbn⟩:=jbs h2;obtain⟨gn,rfl,hgn⟩:=XO h3;simp only[dn]at h5 h6 h7 h8
 have hbl:bn<s.on.length:=by rw[hr.sane.sO];exact hbn
 have hgl:gn<(fO s.on bn).length:=by rw[hr.sane.rowLen hbn];exact hgn
 rw[h8];refine⟨received h1 hbn hgn h4.1 h6 h7,h1,h2,h3,?_,?_⟩
 ·unfold lW;show cell (setCell s.on bn gn (cell s.on bn gn+n)) (bn:Int).toNat (gn:Int).toNat - bound s bn gn=_;simp only[dn];rw[pU hbl hgl,aB ⟨rfl,rfl⟩];omega
 ·unfold free at h5 ⊢
  simp only[dn]at h5 ⊢
  have:ny (λg=>(cell (setCell s.on bn gn (cell s.on bn gn+n)) bn g+iC s bn g)*aZ p.aW g) p.aW.length=ny (λg=>(cell s.on bn g+iC s bn g)*aZ p.aW g) p.aW.length+n*aZ p.aW gn:=by
   refine FK (i:=gn) hgn (λk hk hne=>?_) ?_
   ·show(cell (setCell s.on bn gn (cell s.on bn gn+n)) bn k+iC s bn k)*aZ p.aW k=_;rw[pU hbl hgl,au (by omega)]
   ·show(cell (setCell s.on bn gn (cell s.on bn gn+n)) bn gn+iC s bn gn)*aZ p.aW gn=_;rw[pU hbl hgl,aB ⟨rfl,rfl⟩,<- yG];congr 1
    omega
  have e:∀g:Nat,iC {s with on:=setCell s.on bn gn (cell s.on bn gn+n),jf:=s.jf.set gn (aZ s.jf gn+n)} bn g=iC s bn g:=λ_=>rfl
  simp only[e];rw[this];omega
theorem Pj{p:dG}{s:aI}{l:List Line}(h:(enter p s l).2=0):
  aO p s=0/\s.ak.length<4/\(1<=l.length/\l.length<=3)/\(∀x∈l,(iO p x.dW=true/\1<=x.jk/\x.jk<=200)/\x.qI=0/\x.eU=0)/\(enter p s l).1={s with ak:=s.ak++[⟨0,l⟩]}:=by
 unfold enter at h ⊢
 by_cases h1:aO p s=0
 ·rw[au (λhn=>hn h1)]at h ⊢
  split at h
  ·simp at h
  ·rename_i h2
   rw[au h2];split at h
   ·simp at h
   ·rename_i h3
    rw[au h3];split at h
    ·simp at h
    ·rename_i h4
     rw[au h4];have h2':s.ak.length<4/\dM l.length 1 3=true:=by
      constructor
      ·exact Nat.lt_of_not_le λhh=>h2 (.inl hh)
      ·cases hq:dM (l.length:Int) 1 3
       ·exact absurd (.inr (by rw[hq];rfl)) h2
       ·rfl
     have h3':(l.all λx=>iO p x.dW&&dM x.jk 1 200)=true:=by simpa using h3
     have h4':(l.all λx=>decide (x.qI=0)&&decide (x.eU=0))=true:=by simpa using h4
     refine⟨h1,h2'.1,by have:=dZ.1 h2'.2;omega,λx hx=>⟨?_,?_⟩,rfl⟩
     ·have:=bJ.1 h3' x hx;rw[dF,dZ]at this
      exact this
     ·have:=bJ.1 h4' x hx;rw[dF,dI,dI]at this
      exact this
 ·rw[aB h1]at h
  exact absurd h h1
theorem jgY{p:dG}{s:aI}(hs:pz p s){o:Nat}(ho:s.ak.length<=o)(k:Int):kept s.aA o k=0:=by
 unfold kept;rw[Lp]
 ·rfl
 ·intro x hx;obtain⟨i,hi,rfl⟩:=bg hx;have:=(hs.yL hi).1;rw[iZ hi]at this
  unfold CP;rw[iE (by omega),vZ]
theorem jfn{p:dG}{s:aI}{l:List Line}(h:(enter p s l).2=0):aO p (enter p s l).1=0/\(enter p s l).1.ak.length=s.ak.length+1/\(enter p s l).1.aA=s.aA:=by
 obtain⟨h1,h2,h3,h4,h5⟩:=Pj h;rw[h5];refine⟨?_,by simp,rfl⟩
 obtain⟨hr,LP⟩:=oV.1 h1;have hs:=hr.sane;have hor:∀o,o<s.ak.length->({s with ak:=s.ak++[⟨0,l⟩]}:aI).aC o=s.aC o:=λo ho=>by
  unfold aI.aC bK;simp[ho,fE]
 have hnew:({s with ak:=s.ak++[⟨0,l⟩]}:aI).aC s.ak.length=⟨0,l⟩:=by
  unfold aI.aC bK;simp
 have hln:∀o k,o<s.ak.length->({s with ak:=s.ak++[⟨0,l⟩]}:aI).aK o k=s.aK o k:=λo k ho=>by
  unfold aI.aK;rw[hor o ho]
 have hcase:∀o,o<({s with ak:=s.ak++[⟨0,l⟩]}:aI).ak.length->o<s.ak.length\/o=s.ak.length:=λo ho=>by
  have:o<s.ak.length+1:=by simpa using ho
  omega
 have hbound:∀b g:Int,bound {s with ak:=s.ak++[⟨0,l⟩]} b g=bound s b g:=λb g=>by
  unfold bound;have:pO {s with ak:=s.ak++[⟨0,l⟩]} b g=pO s b g:=Rq (s:=s) (t:={s with ak:=s.ak++[⟨0,l⟩]}) rfl (λx hx=>by
   obtain⟨i,hi,rfl⟩:=bg hx;have:=(hs.yL hi).1;rw[iZ hi]at this
   rw[hln _ _ (by omega)]) b g
  rw[this]
 have hl:∀k,k<l.length->ug p (fG l k)=true/\(fG l k).qI=0/\(fG l k).eU=0:=λk hk=>by
  have:=h4 (fG l k) (by rw[qw hk];exact dh hk)
  refine⟨rO.2 ⟨wI.1 this.1.1,this.1.2,by omega,by omega⟩,this.2⟩
 refine oV.2 ⟨lu.of (pz.of hs.shelf (by simp;omega) hs.uf (λo ho=>?_) (λo k ho hk=>?_) hs.aA (λx hx=>?_) (λx hx=>bJ.1 (eG.1 hs.form).2.2.2.1 x hx)
  (eG.1 hs.form).2.2.2.2.1 (eG.1 hs.form).2.2.2.2.2.1 (eG.1 hs.form).2.2.2.2.2.2) (λg hg=>hr.sum hg) (λb g hb hg=>by rw[hbound];exact hr.bnd hb hg) (λo k ho hk=>?_),λo ho=>?_⟩
 ·rcases hcase o ho with ho|rfl
  ·rw[hor o ho];exact⟨hs.rE ho,hs.eH ho⟩
  ·rw[hnew];exact⟨h3,by simp only;omega⟩
 ·rcases hcase o ho with ho|rfl
  ·rw[hor o ho]at hk
   rw[hln o k ho];exact rO.2 (hs.aK ho hk)
  ·rw[hnew]at hk
   unfold aI.aK;rw[hnew];exact(hl k hk).1
 ·have hq:=og.1 (bJ.1 (eG.1 hs.form).2.2.1 x hx);obtain⟨i,hi,rfl⟩:=bg hx;have h0:=(hs.yL hi).1;rw[iZ hi]at h0
  change s.aA[i].aC<_/\_ at hq
  refine og.2 ⟨?_,?_,hq.2.2⟩
  ·have:=hq.1;change s.aA[i].aC<_;simp only[aX,bP,dQ];omega
  ·rw[hor _ (by change s.aA[i].aC.toNat<_;omega)]
   exact hq.2.1
 ·rcases hcase o ho with ho|rfl
  ·rw[hor o ho]at hk
   rw[uP,hln o k ho,hor o ho];exact hr.BU ho hk
  ·rw[hnew]at hk
   rw[uP];unfold aI.aK;rw[hnew];have e:kept ({s with ak:=s.ak++[⟨0,l⟩]}:aI).aA s.ak.length k=0:=jgY hs (ay _) k
   rw[e];obtain⟨_,h6,h7⟩:=hl k hk;simp only[ite_true];omega
 ·rcases hcase o ho with ho|rfl
  ·rw[hor o ho];exact LP o ho
  ·rw[hnew];simp
theorem EG{α β:Type}{P:β->Prop}{f:β->α->β}:∀ {l:List α} {t:β},(∀t x,x∈l->P t->P (f t x))->P t->P (l.foldl f t)
 |[],_,_,h=>h
 |x::l,_,hs,h=>EG (l:=l) (λt y hy=>hs t y (aY _ hy)) (hs _ x (bW ..) h)
structure xA(p:dG)(s t:aI):Prop where
 right:lu p t
 qI:∀o,o<t.ak.length->¬((t.aC o).eH=1/\pq (t.aC o)=true)
 rest:t={s with aF:=t.aF}
 ext:∃l,t.aF=s.aF++l/\∀x∈l,((0<=x.src/\x.src<p.dP.length)/\(0<=x.dst/\x.dst<p.dP.length)/\(0<=x.dW/\x.dW<p.aW.length))/\(p.bin x.src.toNat).front=false/\(p.bin x.dst.toNat).front=true/\
  cell s.on x.dst.toNat x.dW.toNat+iC t x.dst x.dW<=(p.bin x.dst.toNat).high
 less:∀b:Nat,b<p.dP.length->free p t b<=free p s b/\(free p t b<free p s b->0<=free p t b)
section
variable {p:dG} {s t:aI} {b g f:Nat} {n:Int}
theorem jbf(l:List Move)(x:Move)(b g:Int):mF (l++[x]) b g=mF l b g+BI b g x:=by
 unfold mF;rw[gJ,uz];simp
theorem Y4(l:List Move)(x:Move)(b g:Int):MO (l++[x]) b g=MO l b g+toN b g x:=by
 unfold MO;rw[gJ,uz];simp
def zY(t:aI)(x:Move):aI:={t with aF:=t.aF++[x]}
theorem Y7(x:Move)(b g:Int):bound (zY t x) b g=bound t b g+BI b g x:=by
 unfold bound;have e:pO (zY t x) b g=pO t b g:=rfl;have e2:mF (zY t x).aF b g=mF t.aF b g+BI b g x:=jbf _ _ _ _;rw[e,e2];omega
theorem GU(x:Move)(b g:Int):iC (zY t x) b g=iC t b g+toN b g x:=Y4 _ _ _ _
theorem jby(b':Nat)(hg:g<p.aW.length):free p (zY t ⟨g,f,b,n⟩) b'=free p t b' - if b'=b then n*aZ p.aW g else 0:=by
 unfold free;by_cases h:b'=b
 ·subst h;rw[aB rfl];have:=FK (f:=λg=>(cell t.on (b':Int).toNat g+iC t b' g)*aZ p.aW g) (g:=λg'=>(cell (zY t ⟨g,f,b',n⟩).on (b':Int).toNat g'+iC (zY t ⟨g,f,b',n⟩) b' g')*aZ p.aW g') (n:=p.aW.length) (i:=g) (d:=n*aZ p.aW g) hg (λk hk hne=>by
   have e:iC (zY t ⟨g,f,b',n⟩) b' k=iC t b' k:=by
    rw[GU];unfold toN;rw[au (by simp only;omega),je]
   simp only[e];rfl) (by
   have e:iC (zY t ⟨g,f,b',n⟩) b' g=iC t b' g+n:=by
    rw[GU];unfold toN;rw[aB ⟨rfl,rfl⟩]
   simp only[e];have e1:(zY t ⟨g,f,b',n⟩).on=t.on:=rfl;rw[e1,<- yG];congr 1
   omega)
  rw[this];omega
 ·rw[au h,qx];congr 1
  refine zN λk hk=>?_
  have e:iC (zY t ⟨g,f,b,n⟩) b' k=iC t b' k:=by
   rw[GU];unfold toN;rw[au (by simp only;omega),je]
  rw[e];rfl
theorem jho{r z n:Int}(hz:1<=z)(hn:1<=n)(h:n<=r.tdiv z):n*z<=r:=by
 have h0:0<r:=by
  refine uG λhr=>?_
  have h1:(-r).tdiv z= -(r.tdiv z):=Int.neg_tdiv ..;have h2:0<=(-r).tdiv z:=Int.tdiv_nonneg (by omega) (by omega)
  omega
 have h1:z*r.tdiv z+r.tmod z=r:=Int.mul_tdiv_add_tmod r z;have h2:0<=r.tmod z:=Int.tmod_nonneg _ (by omega)
 have h3:n*z<=r.tdiv z*z:=xI h (by omega)
 have h4:r.tdiv z*z=z*r.tdiv z:=Int.mul_comm _ _;omega
theorem jdm(h:xA p s t)(hb:b<p.dP.length)(hg:g<p.aW.length)(hf:f<p.dP.length)(hbf:(p.bin b).front=true)(Yq:(p.bin f).front=false)(h8:t.aF.length<8)(hn:0<n)
  (h1:n<=(p.bin b).high - cell t.on b g - iC t b g) (h2:n<=lW t f g) (h3:n*aZ p.aW g<=free p t b):xA p s (zY t ⟨g,f,b,n⟩):=by
 have hr:=h.right;have hs:=hr.sane;have hfb:f≠b:=λe=>by rw[e,hbf]at Yq;cases Yq
 have hav:=hr.PN hf hg;have hcl:=hs.cell hf hg;have hon:t.on=s.on:=by rw[h.rest]
 refine⟨lu.of (pz.of hs.shelf hs.nX ?_ (λo ho=>⟨hs.rE ho,hs.eH ho⟩) (λo k ho hk=>rO.2 (hs.aK ho hk)) hs.aA (λx hx=>bJ.1 (eG.1 hs.form).2.2.1 x hx) (λx hx=>?_)
  (eG.1 hs.form).2.2.2.2.1 (eG.1 hs.form).2.2.2.2.2.1 (eG.1 hs.form).2.2.2.2.2.2) (λg' hg'=>hr.sum hg') (λb' g' hb' hg'=>?_) (λo k ho hk=>hr.aK o k ho hk),h.qI,?_,?_,λb' hb'=>?_⟩
 ·show(t.aF++[_]).length<=8;simp
  omega
 ·rcases jD.1 hx with hx|hx
  ·exact bJ.1 (eG.1 hs.form).2.2.2.1 x hx
  ·obtain rfl:=ig.1 hx;exact Hu.2 ⟨by simp only;omega,by simp only;omega,by simp only;omega,by simp only;omega,by simp only;omega,by simp only;omega⟩
 ·have hq:=hr.bnd hb' hg';rw[Y7];have e1:(zY t ⟨g,f,b,n⟩).on=t.on:=rfl;rw[e1];unfold BI;simp only;split
  ·rename_i hc
   obtain⟨c1,c2⟩:=hc;obtain rfl:f=b':=by omega
   obtain rfl:g=g':=by omega
   unfold lW at h2
   simp only[dn]at h2
   omega
  ·omega
 ·have:=h.rest;unfold zY;simp only;rw[this]
 ·obtain⟨l,hl,hx⟩:=h.ext;refine⟨l++[⟨g,f,b,n⟩],?_,λx hxm=>?_⟩
  ·show t.aF++[_]=_;rw[hl,gZ]
  ·rw[GU];unfold toN;simp only;rcases jD.1 hxm with hxm|hxm
   ·obtain⟨x1,x2,x3,x4⟩:=hx x hxm;refine⟨x1,x2,x3,?_⟩
    split
    ·rename_i hc
     obtain⟨c1,c2⟩:=hc;rw[<- c1,<- c2];simp only[dn];rw[<- hon];omega
    ·omega
   ·obtain rfl:=ig.1 hxm;refine⟨⟨by simp only;omega,by simp only;omega,by simp only;omega⟩,by simpa using Yq,by simpa using hbf,?_⟩
    rw[aB ⟨rfl,rfl⟩];simp only[dn];rw[<- hon];omega
 ·obtain⟨l1,l2⟩:=h.less b' hb';rw[jby b' hg];have hsz:=Ac hs.plan hg;have wU:0<=n*aZ p.aW g:=Df (by omega) (by omega)
  by_cases e:b'=b
  ·subst e;rw[aB rfl];omega
  ·rw[au e];omega
theorem RG(h:xA p s t)(hb:b<p.dP.length)(hg:g<p.aW.length)(hf:f<p.dP.length)(hbf:(p.bin b).front=true)(Yq:(p.bin f).front=false):xA p s (Jl p t b g f):=by
 unfold Jl;split
 ·exact h
 ·split
  ·rename_i h8 hn
   have hsz:=Ac h.right.sane.plan hg;have hN:IQ p t b g f<=(p.bin b).high - cell t.on b g - iC t b g/\IQ p t b g f<=lW t f g/\IQ p t b g f<=(free p t b).tdiv (aZ p.aW g):=by
    unfold IQ;omega
   exact jdm h hb hg hf hbf Yq (by omega) hn hN.1 hN.2.1 (jho hsz.1 (by omega) hN.2.2)
  ·exact h
theorem Pg(h:xA p s t)(hb:b<p.dP.length)(hg:g<p.aW.length)(hbf:(p.bin b).front=true):xA p s (tK p b t g):=by
 unfold tK;split
 ·exact EG (P:=xA p s) (λ_ _ hf h=>RG h hb hg (Ew.1 hf).1 hbf (Ew.1 hf).2) h
 ·exact h
theorem RH(h:xA p s t)(hb:b<p.dP.length)(hbf:(p.bin b).front=true):xA p s ((List.range p.aW.length).foldl (tK p b) t):=
 EG (P:=xA p s) (λ_ _ hg h=>Pg h hb (jq.1 hg) hbf) h
theorem O9(h:aO p s=0):xA p s s:=by
 obtain⟨h1,h2⟩:=oV.1 h;exact⟨h1,h2,rfl,⟨[],by simp,λx hx=>by simp at hx⟩,λb hb=>⟨iT _,λhh=>absurd hh (by omega)⟩⟩
theorem jbk(h:aO p s=0):xA p s (Ph p s):=
 EG (P:=xA p s) (λ_ _ hb h=>RH h (Ew.1 hb).1 (Ew.1 hb).2) (O9 h)
theorem jbj(h:xA p s t):aO p t=0:=oV.2 ⟨h.right,h.qI⟩
theorem jdn{t:aI}(h:8<=t.aF.length)(p:dG)(b g f:Nat):Jl p t b g f=t:=by unfold Jl;rw[aB h]
theorem QI(h:8<=t.aF.length)(p:dG)(b g:Nat):tK p b t g=t:=by
 unfold tK;split
 ·exact EG (P:=λu=>u=t) (λu f _ hu=>by rw[hu];exact jdn h p b g f) rfl
 ·rfl
theorem jbl(h:8<=t.aF.length)(p:dG)(b:Nat)(l:List Nat):l.foldl (tK p b) t=t:=
 EG (P:=λu=>u=t) (λu g _ hu=>by rw[hu];exact QI h p b g) rfl
theorem YX(h:8<=t.aF.length)(p:dG)(l:List Nat):l.foldl (λt b=>(List.range p.aW.length).foldl (tK p b) t) t=t:=
 EG (P:=λu=>u=t) (λu b _ hu=>by rw[hu];exact jbl h p b _) rfl
theorem XW(h:(fill p s).2=0):aO p s=0/\(fill p s).1=Ph p s:=by
 unfold fill at h ⊢
 by_cases h1:aO p s=0
 ·rw[au (λhn=>hn h1)]
  exact⟨h1,rfl⟩
 ·rw[aB h1]at h
  exact absurd h h1
end
section
variable {p:dG} {s:aI} {k:Nat} {n:Int}
theorem TQ{α:Type}(f:α->Int):∀ {l:List α} {k:Nat} (hk:k<l.length),((l.eraseIdx k).map f).sum=(l.map f).sum - f l[k]
 |x::l,0,_=>by simp;omega
 |x::l,k+1,hk=>by
  have:=TQ f (l:=l) (k:=k) (by simpa using hk)
  simp only[List.eraseIdx_cons_succ,dJ,iL,pF];omega
structure Moves(p:dG)(s:aI)(k:Nat)(n:Int):Prop where
 hk:k<s.aF.length
 n0:0<=n
 n1:n<=(bZ s.aF k).n
 full:cell s.on (bZ s.aF k).dst.toNat (bZ s.aF k).dW.toNat+n<=200
theorem jdh(hs:pz p s)(hk:k<s.aF.length):(bZ s.aF k).n<=mF s.aF (bZ s.aF k).src (bZ s.aF k).dW:=by
 have h1:=TQ (BI (bZ s.aF k).src (bZ s.aF k).dW) hk;have h2:0<=((s.aF.eraseIdx k).map (BI (bZ s.aF k).src (bZ s.aF k).dW)).sum:=(Gl (m:=200) (λx hx=>by
  obtain⟨y,hy,rfl⟩:=kN.1 hx;obtain⟨i,hi,rfl⟩:=bg (Af hy);have:=hs.bZ hi;rw[Wh.pJ hi]at this
  unfold BI;split<;>omega)).1
 have h3:BI (bZ s.aF k).src (bZ s.aF k).dW s.aF[k]=(bZ s.aF k).n:=by
  rw[pJ hk];unfold BI;rw[aB ⟨rfl,rfl⟩]
 unfold mF;omega
theorem Xd(hc:aO p s=0)(f:Moves p s k n){b g:Nat}(hb:b<p.dP.length)(hg:g<p.aW.length):cell (BR s k n).on b g=cell s.on b g+if(g:Int)=(bZ s.aF k).dW/\(b:Int)=(bZ s.aF k).dst then n else if(g:Int)=(bZ s.aF k).dW/\(b:Int)=(bZ s.aF k).src then -n else 0:=by
 have hs:=(jm hc).sane;obtain⟨m1,m2,m3,m4,m5,m6⟩:=hs.bZ f.hk;have h1:(bZ s.aF k).src.toNat<s.on.length:=by rw[hs.sO];omega
 have h2:(bZ s.aF k).dW.toNat<(fO s.on (bZ s.aF k).src.toNat).length:=by rw[hs.rowLen (by omega)];omega
 have h3:(bZ s.aF k).dst.toNat<(setCell s.on (bZ s.aF k).src.toNat (bZ s.aF k).dW.toNat (cell s.on (bZ s.aF k).src.toNat (bZ s.aF k).dW.toNat - n)).length:=by rw[qj,hs.sO];omega
 have h4:(bZ s.aF k).dW.toNat<(fO (setCell s.on (bZ s.aF k).src.toNat (bZ s.aF k).dW.toNat (cell s.on (bZ s.aF k).src.toNat (bZ s.aF k).dW.toNat - n)) (bZ s.aF k).dst.toNat).length:=by
  rw[uN,hs.rowLen (by omega)];omega
 have e:cell (BR s k n).on b g=_:=pU h3 h4;rw[e,pU h1 h2,pU h1 h2];by_cases c1:(g:Int)=(bZ s.aF k).dW/\(b:Int)=(bZ s.aF k).dst
 ·rw[aB (by omega),au (by omega),aB c1]
  obtain⟨rfl,rfl⟩:b=(bZ s.aF k).dst.toNat/\g=(bZ s.aF k).dW.toNat:=by omega
  rfl
 ·rw[au (by omega),au c1]
  by_cases c2:(g:Int)=(bZ s.aF k).dW/\(b:Int)=(bZ s.aF k).src
  ·rw[aB (by omega),aB c2]
   obtain⟨rfl,rfl⟩:b=(bZ s.aF k).src.toNat/\g=(bZ s.aF k).dW.toNat:=by omega
   omega
  ·rw[au (by omega),au c2,je]
theorem jcv(f:Moves p s k n)(b g:Int):bound (BR s k n) b g=bound s b g - if(bZ s.aF k).src=b/\(bZ s.aF k).dW=g then(bZ s.aF k).n else 0:=by
 unfold bound;have e1:pO (BR s k n) b g=pO s b g:=rfl;have e2:mF (BR s k n).aF b g=_:=TQ (BI b g) f.hk;rw[e1,e2];have e3:BI b g (s.aF[k]'f.hk)=if(bZ s.aF k).src=b/\(bZ s.aF k).dW=g then(bZ s.aF k).n else 0:=by
  rw[pJ f.hk];rfl
 rw[e3];unfold mF;omega
theorem jgR(hc:aO p s=0)(f:Moves p s k n){g:Nat}(_:g<p.aW.length):Du (BR s k n).on g=Du s.on g:=by
 have hs:=(jm hc).sane;obtain⟨m1,m2,m3,m4,m5,m6⟩:=hs.bZ f.hk;have h1:(bZ s.aF k).src.toNat<s.on.length:=by rw[hs.sO];omega
 have h2:(bZ s.aF k).dW.toNat<(fO s.on (bZ s.aF k).src.toNat).length:=by rw[hs.rowLen (by omega)];omega
 have h3:(bZ s.aF k).dst.toNat<(setCell s.on (bZ s.aF k).src.toNat (bZ s.aF k).dW.toNat (cell s.on (bZ s.aF k).src.toNat (bZ s.aF k).dW.toNat - n)).length:=by rw[qj,hs.sO];omega
 have h4:(bZ s.aF k).dW.toNat<(fO (setCell s.on (bZ s.aF k).src.toNat (bZ s.aF k).dW.toNat (cell s.on (bZ s.aF k).src.toNat (bZ s.aF k).dW.toNat - n)) (bZ s.aF k).dst.toNat).length:=by
  rw[uN,hs.rowLen (by omega)];omega
 have e:Du (BR s k n).on g=_:=EX h3 h4 g;rw[e,EX h1 h2,pU h1 h2,au (show ¬((bZ s.aF k).dst.toNat=(bZ s.aF k).src.toNat/\_)by omega)]
 split<;>omega
theorem jcu(hc:aO p s=0)(f:Moves p s k n):aO p (BR s k n)=0:=by
 obtain⟨hr,LP⟩:=oV.1 hc;have hs:=hr.sane;obtain⟨m1,m2,m3,m4,m5,m6⟩:=hs.bZ f.hk;have hge:=jdh hs f.hk;have n0:=f.n0;have n1:=f.n1;have lZ:(BR s k n).on.length=p.dP.length:=by
  show(setCell (setCell _ _ _ _) _ _ _).length=_;rw[qj,qj,hs.sO]
 have wK:∀b,b<p.dP.length->(fO (BR s k n).on b).length=p.aW.length:=λb hb=>by
  show(fO (setCell (setCell _ _ _ _) _ _ _) b).length=_;rw[uN,uN,hs.rowLen hb]
 obtain⟨gs,hgs⟩:∃gs:Nat,(bZ s.aF k).dW=gs:=⟨(bZ s.aF k).dW.toNat,by omega⟩
 obtain⟨bs,hbs⟩:∃bs:Nat,(bZ s.aF k).src=bs:=⟨(bZ s.aF k).src.toNat,by omega⟩
 obtain⟨ds,hds⟩:∃ds:Nat,(bZ s.aF k).dst=ds:=⟨(bZ s.aF k).dst.toNat,by omega⟩
 have hbn:=hr.bnd (b:=bs) (g:=gs) (by omega) (by omega)
 have hhl:=ED hs bs gs s.aA.length;rw[H8]at hhl
 have hfull:=f.full;rw[hgs,hds]at hfull
 simp only[dn]at hfull
 refine oV.2 ⟨lu.of (pz.of ?_ hs.nX ?_ (λo ho=>⟨hs.rE ho,hs.eH ho⟩) (λo k ho hk=>rO.2 (hs.aK ho hk)) hs.aA (λx hx=>bJ.1 (eG.1 hs.form).2.2.1 x hx) (λx hx=>?_)
  (eG.1 hs.form).2.2.2.2.1 (eG.1 hs.form).2.2.2.2.2.1 (eG.1 hs.form).2.2.2.2.2.2) (λg' hg'=>?_) (λb' g' hb' hg'=>?_) (λo k ho hk=>hr.aK o k ho hk),LP⟩
 ·refine jR.2 ⟨hs.plan,Iy.2 ⟨lZ,λb hb=>?_⟩⟩
  rw[lZ]at hb
  refine⟨wK b hb,λg hg=>?_⟩
  rw[Xd hc f hb hg];have hcl:=hs.cell hb hg;rw[hgs,hbs,hds];split
  ·rename_i c
   obtain⟨rfl,rfl⟩:g=gs/\b=ds:=by omega
   omega
  ·split
   ·rename_i c
    obtain⟨rfl,rfl⟩:g=gs/\b=bs:=by omega
    unfold bound at hbn
    rw[hgs,hbs]at hge
    omega
   ·omega
 ·show(s.aF.eraseIdx k).length<=8;rw[qE];have:=hs.uf;split<;>omega
 ·exact bJ.1 (eG.1 hs.form).2.2.2.1 x (Af hx)
 ·rw[jgR hc f hg'];exact hr.sum hg'
 ·have hq:=hr.bnd hb' hg';rw[jcv f,Xd hc f hb' hg'];rw[hgs,hbs,hds];have hsd:bs≠ds:=by omega
  split
  ·rename_i c
   obtain⟨c1,c2⟩:=c;rw[au (by omega),aB (by omega)]
   omega
  ·rename_i c
   split<;>omega
theorem UM{k n:Int}(h:(D6 p s k n).2=0):aO p s=0/\∃i:Nat,k=i/\Moves p s i n/\(D6 p s k n).1=BR s i n:=by
 unfold D6 at h ⊢
 by_cases h1:aO p s=0
 ·rw[au (λhn=>hn h1)]at h ⊢
  cases h2:dM k 0 (s.aF.length - 1)
  ·rw[h2,aB (by rfl)]at h
   simp at h
  rw[h2,au (by simp)]at h
  rw[au (by simp)]
  cases h3:dM n 0 (bZ s.aF k.toNat).n
  ·rw[h3,aB (by rfl)]at h
   simp at h
  rw[h3,au (by simp)]at h
  rw[au (by simp)]
  have h2':=dZ.1 h2;have h3':=dZ.1 h3;by_cases h4:200<cell s.on (bZ s.aF k.toNat).dst.toNat (bZ s.aF k.toNat).dW.toNat+n
  ·rw[aB h4]at h
   simp at h
  rw[au h4];exact⟨h1,k.toNat,by omega,⟨by omega,h3'.1,h3'.2,by omega⟩,rfl⟩
 ·rw[aB h1]at h
  exact absurd h h1
end
section
variable {p:dG} {s:aI} {k n:Int}
theorem jdo(h:aO p s≠0):fill p s=(kF,aO p s):=by unfold fill;rw[aB h]
theorem jgo(h:aO p s=0):fill p s=(Ph p s,0):=by unfold fill;rw[au (λhn=>hn h)]
theorem ZA(h:aO p s≠0):D6 p s k n=(kF,aO p s):=by unfold D6;rw[aB h]
theorem Q8(h:aO p s=0)(h2:k<0\/(s.aF.length:Int)<=k):D6 p s k n=(kF,4):=by
 unfold D6;rw[au (λhn=>hn h),mY.2 (by omega)]
 rfl
theorem OB{i:Nat}(h:aO p s=0)(hi:i<s.aF.length)(h3:n<0\/(bZ s.aF i).n<n):D6 p s i n=(kF,3):=by
 unfold D6;rw[au (λhn=>hn h),dZ.2 (by omega),au (by simp),dn,mY.2 h3]
 rfl
theorem Xc{i:Nat}(h:aO p s=0)(hi:i<s.aF.length)(h3:0<=n/\n<=(bZ s.aF i).n)(h4:200<cell s.on (bZ s.aF i).dst.toNat (bZ s.aF i).dW.toNat+n):D6 p s i n=(kF,2):=by
 unfold D6;rw[au (λhn=>hn h),dZ.2 (by omega),au (by simp),dn,dZ.2 h3,au (by simp),aB h4]
theorem jcs{i:Nat}(h:aO p s=0)(f:Moves p s i n):D6 p s i n=(BR s i n,0):=by
 have hk:=f.hk;have h4:=f.full;unfold D6;rw[au (λhn=>hn h),dZ.2 (by omega),au (by simp),dn,dZ.2 ⟨f.n0,f.n1⟩,au (by simp),au (by omega)]
end
end Wh
