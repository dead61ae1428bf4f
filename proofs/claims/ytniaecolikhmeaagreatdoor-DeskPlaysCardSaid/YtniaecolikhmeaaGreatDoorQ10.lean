/- Texts of the claim, joined. -/
import Derived.Deep.Fields
import Derived.Test.YtniaecolikhmeaaGreatDoorQ06
set_option maxHeartbeats 20000000
set_option maxRecDepth 100000
set_option linter.all false
namespace Wh
open Go Go.RowKit Go.ChangeShapes Go.WideShapes Go.Deep
section
theorem cell_lt{w:World}{a:Addr}{v:Value}(h:w.cell? a=some v):a.block<w.heap.size:=by
 by_cases hlt:a.block<w.heap.size
 ·exact hlt
 ·unfold World.cell? at h
  rw[iF (by omega)]at h
  simp at h
section
variable {H:Type} {en:TypeId×Value→H} {P:Program} {w:World} {aT:Nat} {sp:Nat→Bool} {hd:Bool}
def Rd(en:TypeId×Value->H)(P:Program)(w:World)(aT:Nat)(sp:Nat->Bool)(hd:Bool)(t:TypeId)(cs:List Value):Prop:=
 ∃(n:Nat) (x:DataW H×List MemPlace),DataW.trod en P w aT sp hd n t cs=some x/\∀k∈x.1.weights P t,k<=reachBytes
theorem Rd.int{t:TypeId}{cs:List Value}(ht:P.underlying t=some (.int .i64))(h:Rd en P w aT sp hd t cs):∃n,cs=[.int .i64 n]:=by
 obtain⟨n,x,h,_⟩:=h;obtain⟨m,hm,_⟩:=DataW.trod_int ht h;exact⟨m,hm⟩
theorem Rd.bool{t:TypeId}{cs:List Value}(ht:P.underlying t=some .bool)(h:Rd en P w aT sp hd t cs):∃b,cs=[.bool b]:=by
 obtain⟨n,x,h,_⟩:=h;obtain⟨m,hm,_⟩:=DataW.trod_bool ht h;exact⟨m,hm⟩
theorem Rd.fields{t:TypeId}{fs:Array Field}{cs:List Value}(hs:P.underlying t=some (.struct fs))(hone:oneCellFields P fs=true)(hC:P.cellsOf t=fs.size)(h:Rd en P w aT sp hd t cs):
  cs.length=fs.size/\∀(j:Nat) (f:Field),fs[j]?=some f->∃v,cs[j]?=some v/\Rd en P w aT sp hd f.type [v]:=by
 obtain⟨n,x,h,hw⟩:=h;obtain⟨xs,m,_,hx,lZ,hxl,hf⟩:=DataW.trod_struct hs h;rw[hC]at lZ
 refine⟨lZ,λj f hj=>?_⟩
 have hjl:j<fs.size:=(bI.1 hj).1
 obtain⟨ho,hk⟩:=hone_of hone j f hj;have h1:=hf j f hj;rw[ho,hk,jU (by omega)]at h1
 have hys:xs[j]?=some (xs[j]'(by omega)):=bQ (by omega)
 refine⟨cs[j]'(by omega),bQ (by omega),m,xs[j]'(by omega),by rw[<- hys,<- h1];rfl,λk hkm=>hw k ?_⟩
 rw[hx];simp only[DataW.weights,hs];refine BA (j:=j) (t:=f.type) (d:=(xs[j]'(by omega)).1) ?_ ?_ k hkm
 ·rw[lG,Cm,hj];rfl
 ·rw[lG,hys];rfl
theorem NW{e:TypeId}:∀ {ds:List (DataW H)} {j:Nat} {d:DataW H},ds[j]?=some d->∀n∈d.weights P e,n∈DataW.weightsAll P e ds
 |d0::ds,0,d,hd,n,hn=>by
  simp only[oM,mZ]at hd
  subst hd;simp only[DataW.weightsAll,jD];exact Or.inl hn
 |d0::ds,j+1,d,hd,n,hn=>by
  simp only[wE]at hd
  simp only[DataW.weightsAll,jD];exact Or.inr (NW hd n hn)
 |[],_,_,hd,_,_=>by simp at hd
theorem Rd.slice{t e:TypeId}{k:Nat}{cs:List Value}(ht:P.underlying t=some (.slice e))(hC:P.cellsOf e=k)(hB:0<P.bytesOf e)(h:Rd en P w aT sp hd t cs):
  ∃(A:Option Addr) (len c:Nat),cs=[.slice A len c]/\len<=140737488355232/\
   ∀i,i<len->∃cs',cs'.length=k/\Rd en P w aT sp hd e cs'/\∀j v,cs'[j]?=some v->okA A/\iH A<w.heap.size/\w.cell? ⟨iH A,l9 A+(i*k+j),none⟩=some v:=by
 obtain⟨n,x,h,hw⟩:=h;rcases open_slice ht h with⟨rfl,_⟩|⟨a,len,cap,m,n',D,Pl,rfl,_,hl,_,hm,hx,hi⟩
 ·exact⟨none,0,0,rfl,by omega,λi hi=>by omega⟩
 ·have hlm:len<=m:=by rw[hm];split<;>omega
  have hreach:(len+(m - len))*P.bytesOf e<=reachBytes:=hw _ (by rw[hx];simp[DataW.weights,ht])
  have hspot:0<len->0<k->a.spot=none:=λh1 h2=>by
   obtain⟨cs',hc,_⟩:=hi 0 (by omega)
   rw[hC]at hc
   obtain⟨_,hcl,hat⟩:=World.cells?_some hc
   have Aj:=hat 0 h2;rw[bQ (by omega),add_add]at Aj
   have:=World.cell?_spot Aj
   simpa[Addr.add]using this
  refine⟨some a,len,cap,rfl,?_,λi hi'=>?_⟩
  ·have h1:len*1<=(len+(m - len))*P.bytesOf e:=vW (by omega) hB
   simp only[reachBytes]at hreach
   omega
  ·obtain⟨cs',hc,ht'⟩:=hi i (by omega)
   rw[hC]at hc
   obtain⟨_,hcl,hat⟩:=World.cells?_some hc
   refine⟨cs',hcl,⟨n',_,ht',λq hq=>hw q ?_⟩,λj v hj=>?_⟩
   ·rw[hx];simp only[DataW.weights,ht,fF,jD];refine .inr (.inl (NW (j:=i) (d:=D i) ?_ q hq))
    rw[lG,yF hi'];rfl
   ·have hjl:j<k:=by rw[<- hcl];exact(fA.1 hj).1
    have Aj:=hat j hjl;rw[hj,add_add]at Aj
    obtain⟨b,off,spot⟩:=a;obtain rfl:spot=none:=hspot (by omega) (by omega)
    rw[gy]at Aj
    exact⟨SE _ _,cell_lt (a:=⟨b,off+(i*k+j),none⟩) Aj,Aj⟩
theorem Rd.sl{α:Type}{enc:α->List Value}{k:Nat}{t e:TypeId}{cs:List Value}[Inhabited α](ht:P.underlying t=some (.slice e))(hC:P.cellsOf e=k)(hB:0<P.bytesOf e)(hk:∀x,(enc x).length=k)(h0:0<k)
  (hel:∀cs',cs'.length=k->Rd en P w aT sp hd e cs'->∃x:α,cs'=enc x) (h:Rd en P w aT sp hd t cs):∃v l,cs=[v]/\Sl enc w w v l:=by
 obtain⟨A,len,c,rfl,lZ,hi⟩:=h.slice ht hC hB;obtain⟨X,hX⟩:=choose_lt (α:=α) (n:=len) (p:=λi x=>∀j v,(enc x)[j]?=some v->okA A/\iH A<w.heap.size/\w.cell? ⟨iH A,l9 A+(i*k+j),none⟩=some v) (λi hil=>by
  obtain⟨cs',h1,h2,h3⟩:=hi i hil;obtain⟨x,rfl⟩:=hel cs' h1 h2;exact⟨x,h3⟩)
 refine⟨_,(List.range len).map X,rfl,A,c,by simp,by simpa using lZ,λhn=>?_⟩
 have Aj:∀j v,(((List.range len).map X).flatMap enc)[j]?=some v->okA A/\iH A<w.heap.size/\w.cell? ⟨iH A,l9 A+j,none⟩=some v:=λj v hj=>by
  have hjl:j<len*k:=by
   have:=(fA.1 hj).1
   rw[lU enc k hk]at this
   simpa using this
  have hq:j / k<len:=(Cb h0).2 hjl;have e1:j / k*k+j%k=j:=by rw[Nat.mul_comm];exact Nat.div_add_mod j k
  have e2:=O8 enc k hk ((List.range len).map X) (j / k) (j%k) (X (j / k)) (by rw[lG,yF hq];rfl) (Nat.mod_lt _ h0)
  rw[e1,hj]at e2
  have:=hX (j / k) hq (j%k) v e2.symm;rwa [e1]at this
 have hlp:0<(((List.range len).map X).flatMap enc).length:=uF.2 hn;obtain⟨h1,h2,_⟩:=Aj 0 _ (bQ hlp)
 exact⟨h1,h2,λj v hj=>(Aj j v hj).2.2⟩
end
end
end Wh
