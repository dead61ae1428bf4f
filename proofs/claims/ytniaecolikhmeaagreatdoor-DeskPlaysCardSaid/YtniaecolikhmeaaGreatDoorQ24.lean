/- Texts of the claim, joined. -/
import Derived.Lib.AtoiAll
import Derived.Lib.ItoaNum
import Derived.Lib.Split
import Derived.Lib.Join
import Derived.Test.YtniaecolikhmeaaGreatDoorQ17
set_option maxHeartbeats 20000000
set_option maxRecDepth 100000
set_option linter.all false
namespace Wh
def bytes(l:List Nat):List UInt8:=l.map UInt8.ofNat
theorem bytes_inj{a b:List Nat}(ha:∀x∈a,x<256)(hb:∀x∈b,x<256)(h:bytes a=bytes b):a=b:=by
 have key:∀l:List Nat,(∀x∈l,x<256)->(bytes l).map UInt8.toNat=l:=λl hl=>by
  unfold bytes;rw[Aq];conv=>rhs;rw[<- List.map_id l]
  refine lM λx hx=>?_
  have:=hl x hx;simp
  omega
 rw[<- key a ha,<- key b hb,h]
theorem decDigits_eq(n:Nat):Go.Lib.decDigits n=bytes (digits n):=by
 induction n using Nat.strongRecOn with
 |ind n ih=>
  rw[zX,Go.Lib.decDigits];by_cases h:n<10
  ·rw[aB h];first|rw[dif_pos h]|rw[aB h]
   rfl
  ·rw[au h];first|rw[dif_neg h]|rw[au h]
   rw[ih (n / 10) (by omega)]
   simp[bytes]
theorem jgm:∀(s:List Nat) (acc:Nat),acc<=s.foldl (λn x=>10*n+(x - 48)) acc
 |[],_=>ay _
 |x::r,acc=>aU (by omega) (jgm r (10*acc+(x - 48)))
theorem SA:∀(s:List Nat) (acc:Nat),(∀x∈s,48<=x/\x<=57)->s.foldl (λn x=>10*n+(x - 48)) acc<1844674407370955162->
  Go.Lib.parseUint10 acc (bytes s)=.ok (s.foldl (λn x=>10*n+(x - 48)) acc)
 |[],_,_,_=>rfl
 |x::r,acc,h,hl=>by
  have hx:=h x (bW ..);have e:(UInt8.ofNat x).toNat=x:=by simp;omega
  have hg:=jgm r (10*acc+(x - 48));have hl':r.foldl (λn x=>10*n+(x - 48)) (10*acc+(x - 48))<1844674407370955162:=hl
  have ih:=SA r (10*acc+(x - 48)) (λy hy=>h y (aY _ hy)) hl'
  have e2:bytes (x::r)=UInt8.ofNat x::bytes r:=rfl;rw[e2,Go.Lib.parseUint10,e,aB hx,au (by omega),au (by omega)]
  rw[show acc*10+(x - 48)=10*acc+(x - 48)by omega]
  exact ih
theorem jdP{v:Nat}(hv:v<1000000):Go.Lib.atoiAll (bytes (digits v))=.ok (v:Int):=by
 have hm:=Em v;have hp:=RP v;have hpar:Go.Lib.parseMag (bytes (digits v))=.ok v:=by
  unfold Go.Lib.parseMag;rw[au (by intro h;have:=nO List.length h;simp[bytes]at this;rw[this]at hp;simp at hp)]
  have:=SA (digits v) 0 hm (by have:=Jo v;unfold valOf at this;omega)
  rw[this];have h2:=Jo v;unfold valOf at h2
  rw[h2]
 cases hd:digits v with
 |nil=>rw[hd]at hp;simp at hp
 |cons c r=>
  have hc:=hm c (by rw[hd];exact bW ..)
  have e:(UInt8.ofNat c).toNat=c:=by simp;omega
  rw[hd]at hpar
  have e2:bytes (c::r)=UInt8.ofNat c::bytes r:=rfl;unfold Go.Lib.atoiAll;rw[e2];simp only[e];rw[au (by omega),<- e2,hpar]
  simp only;rw[au (by omega),au (by omega),au (by omega)]
theorem jaM{s:List Nat}(h:∀v:Int,Go.Lib.atoiAll (bytes s)=.ok v->¬(0<=v/\s.length<=6/\Go.Lib.itoa v=bytes s)):J3 s= -1:=by
 refine jcr λv hv=>?_
 have hlt:(v:Int)<1000000:=by have:=jlz (s:=s);rw[WV.2 hv]at this;exact this
 refine h v (by rw[hv.1];exact jdP (by omega)) ⟨by omega,hv.2,?_⟩
 unfold Go.Lib.itoa;rw[au (by omega),decDigits_eq,dn,<- hv.1]
theorem ofNat_eq{x c:Nat}(hx:x<256)(hc:c<256):(UInt8.ofNat x==UInt8.ofNat c)=decide (x=c):=by
 by_cases h:x=c
 ·subst h;simp
 ·have:UInt8.ofNat x≠UInt8.ofNat c:=λe=>h (by have:=nO UInt8.toNat e;simp at this;omega)
  simp[h,this]
theorem index_none{c:Nat}(hc:c<256):∀t:List Nat,(∀x∈t,x<256)->c ∉ t->Go.Lib.index (bytes t) [UInt8.ofNat c]= -1
 |[],_,_=>rfl
 |x::r,hb,hn=>by
  have ih:=index_none hc r (λy hy=>hb y (aY _ hy)) (λh=>hn (aY _ h))
  have hx:x≠c:=λh=>hn (by rw[h];exact bW ..)
  rw[Go.Lib.index_one]at ih ⊢
  show Go.Lib.indexByte (UInt8.ofNat x::bytes r) (UInt8.ofNat c)= -1;unfold Go.Lib.indexByte;rw[ofNat_eq (hb x (bW ..)) hc,ih];simp[hx]
theorem jcL{c:Nat}(hc:c<256)(r:List Nat):∀a:List Nat,(∀x∈a,x<256)->c ∉ a->Go.Lib.index (bytes (a++c::r)) [UInt8.ofNat c]=(a.length:Int)
 |[],_,_=>by
  rw[Go.Lib.index_one];show Go.Lib.indexByte (UInt8.ofNat c::bytes r) (UInt8.ofNat c)=_;unfold Go.Lib.indexByte;simp
 |x::a,hb,hn=>by
  have ih:=jcL hc r a (λy hy=>hb y (aY _ hy)) (λh=>hn (aY _ h))
  have hx:x≠c:=λh=>hn (by rw[h];exact bW ..)
  rw[Go.Lib.index_one]at ih ⊢
  show Go.Lib.indexByte (UInt8.ofNat x::bytes (a++c::r)) (UInt8.ofNat c)=_;unfold Go.Lib.indexByte;rw[ofNat_eq (hb x (bW ..)) hc,ih];have:¬((a.length:Int)= -1):=by omega
  simp[hx,this]
theorem UE{c:Nat}:∀t:List Nat,c ∉ t->splitB c t=[t]
 |[],_=>rfl
 |x::r,h=>by
  have hx:x≠c:=λe=>h (by rw[e];exact bW ..)
  rw[splitB,au hx,UE r λe=>h (aY _ e)]
  rfl
theorem Zl{c:Nat}(r:List Nat):∀a:List Nat,c ∉ a->splitB c (a++c::r)=a::splitB c r
 |[],_=>by rw[fJ,splitB,aB rfl]
 |x::a,h=>by
  have hx:x≠c:=λe=>h (by rw[e];exact bW ..)
  rw[gG,splitB,au hx,Zl r a λe=>h (aY _ e)]
  rfl
theorem UD{c:Nat}:∀t:List Nat,c∈t->∃a r,t=a++c::r/\c ∉ a
 |[],h=>by simp at h
 |x::t,h=>by
  by_cases hx:x=c
  ·exact⟨[],t,by rw[hx];rfl,by simp⟩
  ·obtain⟨a,r,e,hn⟩:=UD t (by simpa[uy hx]using h)
   exact⟨x::a,r,by rw[e];rfl,by simp[uy hx,hn]⟩
theorem Zk{c:Nat}(hc:c<256):∀(n:Nat) (t:List Nat),t.length<=n->(∀x∈t,x<256)->
  Go.Lib.splitK [UInt8.ofNat c] 0 (Go.Lib.count (bytes t) [UInt8.ofNat c]) (bytes t)=(splitB c t).map bytes/\Go.Lib.count (bytes t) [UInt8.ofNat c]+1=(splitB c t).length
 |n,t,hn,hb=>by
  by_cases h:c∈t
  ·obtain⟨a,r,rfl,ha⟩:=UD t h;have hba:∀x∈a,x<256:=λx hx=>hb x (tY _ hx)
   have hbr:∀x∈r,x<256:=λx hx=>hb x (Cc _ (aY _ hx))
   have hi:=jcL hc r a hba ha;have hcn:=Go.Lib.count_hit (s:=bytes (a++c::r)) (sub:=[UInt8.ofNat c]) (i:=a.length) (by simp) hi
   have hdrop:(bytes (a++c::r)).drop (a.length+[UInt8.ofNat c].length)=bytes r:=by
    unfold bytes;rw[gJ,dJ,List.drop_append];simp
   rw[hdrop]at hcn
   cases n with
   |zero=>simp at hn
   |succ n=>
    have ih:=Zk hc n r (by simp only[aX,bP]at hn;omega) hbr
    rw[hcn,Nat.add_comm 1,Zl r a ha,Go.Lib.splitK,hi];have hne:((a.length:Int)== -1)=false:=kL.2 (by omega)
    rw[hne];refine⟨?_,by rw[bP];omega⟩
    rw[au (by simp),dn,hdrop,dJ,ih.1]
    congr 1
    unfold bytes;rw[gJ,fZ,List.take_left' (by simp)]
  ·have hi:=index_none hc t hb h;rw[Go.Lib.count_miss hi,UE t h];exact⟨rfl,rfl⟩
theorem YC{c:Nat}(hc:c<256){t:List Nat}(hb:∀x∈t,x<256):
  Go.Lib.splitB ⟨#[UInt8.ofNat c]⟩ 0 (Go.Lib.countB (eY t) ⟨#[UInt8.ofNat c]⟩) (eY t)=(splitB c t).map eY/\Go.Lib.countB (eY t) ⟨#[UInt8.ofNat c]⟩+1=(splitB c t).length:=by
 obtain⟨h1,h2⟩:=Zk hc t.length t (ay _) hb;have e:(eY t).data.toList=bytes t:=by simp[eY,bytes]
 have hd:=Go.Lib.splitB_data ⟨#[UInt8.ofNat c]⟩ 0 (Go.Lib.countB (eY t) ⟨#[UInt8.ofNat c]⟩) (eY t);have hc':Go.Lib.countB (eY t) ⟨#[UInt8.ofNat c]⟩=Go.Lib.count (bytes t) [UInt8.ofNat c]:=by show Go.Lib.count _ _=_;rw[e]
 refine⟨?_,by rw[hc'];exact h2⟩
 rw[hc']at hd ⊢
 rw[e]at hd
 have h3:(Go.Lib.splitB ⟨#[UInt8.ofNat c]⟩ 0 (Go.Lib.count (bytes t) [UInt8.ofNat c]) (eY t)).map (·.data.toList)=((splitB c t).map eY).map (·.data.toList):=by
  rw[hd,Aq];show Go.Lib.splitK [UInt8.ofNat c] 0 _ _=_;rw[h1];refine lM λx _=>?_
  simp[eY,bytes]
 exact(List.map_inj_right (f:=λs:ByteArray=>s.data.toList) (λa b h=>DU (Array.toList_inj.1 h))).1 h3
end Wh
