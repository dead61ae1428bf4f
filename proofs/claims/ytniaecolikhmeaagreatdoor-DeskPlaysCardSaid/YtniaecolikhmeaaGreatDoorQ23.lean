/- Texts of the claim, joined. -/
import Derived.Test.YtniaecolikhmeaaGreatDoorQ05
import Derived.Test.YtniaecolikhmeaaGreatDoorQ21
import Derived.Test.YtniaecolikhmeaaGreatDoorQ11
set_option maxHeartbeats 20000000
set_option maxRecDepth 100000
set_option linter.all false
namespace Wh
open Go Go.RowKit Go.Shelf Go.Proofs Tryz
section
attribute [local go_sem] aV
attribute [local go_sem] Oper.semAt_some
theorem jdN(n:Nat)(A:Option Addr)(k c:Nat)(w:World):
  CallsIn Fence.wide n prog 154 #[.slice A k c] w λe w'=>e=.returned (.func (.func 199) #[] #[.pointer (some w)])/\
   w'=w.alloc (.cells #[.slice A k c] 38):=by
 refine nT func154 rfl trivial ?_ rfl
 simp only[ntmps154,iR,bP,dQ,Nat.reduceAdd,Nat.reduceSub,gW,iG,jh,iM,fJ,gG];gi_wp2
 go_ret
 exact⟨rfl,rfl⟩
def jah(Bs:Nat)(A:Option Addr)(c:Nat)(xs:List Move)(k:Nat)(V:World):Prop:=
 V.cell? Bs=some (.slice A xs.length c)/\∀i,i+k<xs.length->∃g,A=some ⟨g,0,none⟩/\V.cell? ⟨g,i*4,none⟩=some (.int .i64 (bZ xs i).dW)/\V.cell? ⟨g,i*4+1,none⟩=some (.int .i64 (bZ xs i).src)/\
  V.cell? ⟨g,i*4+2,none⟩=some (.int .i64 (bZ xs i).dst)/\V.cell? ⟨g,i*4+3,none⟩=some (.int .i64 (bZ xs i).n)
theorem jbu(n l Bs:Nat)(A:Option Addr)(c:Nat)(xs:List Move)(hn:1<=n)(lZ:xs.length<=1000000)(J:List Nat->World->Prop)(W:World)(hJ:∀pre V,J pre V->jah Bs A c xs pre.length V)
  (hY:∀pre x V,J pre V->(x+pre.length+1=xs.length)->YieldAt Fence.wide (n - 1) prog l #[.int .i64 (x:Nat),EW (bZ xs x)] V λe V'=>e=.returned (.bool true)/\J (pre++[x]) V') (h0:J [] W):
  CallsIn Fence.wide n prog 199 (#[.func (.yield l) #[] #[]]++#[.pointer (some Bs)]) W λe V=>(∃v,e=.returned v)/\∃ys,ys.length=xs.length/\J ys V:=by
 change CallsIn Fence.wide n prog _ #[.func (.yield l) #[] #[],.pointer (some Bs)] W _;refine nT func199 rfl trivial ?_ rfl
 simp only[ntmps199,iR,bP,dQ,Nat.reduceAdd,Nat.reduceSub,gW,iG,jh,iM,fJ,gG];obtain⟨b0,_⟩:=hJ _ _ h0;have hw0:IntKind.i64.wrap ((xs.length:Int) - 1)=(xs.length:Int) - 1:=aP _ (by omega)
 gi_wp2
 clear b0;gi_loopw [3] (λi wr=>∃(j:Nat) (pre:List Nat),j+pre.length=xs.length/\i=.int .i64 ((j:Int) - 1)/\J pre wr) (λi _=>(RowKit.intOf i+1).toNat)
 case atStart=>exact⟨xs.length,[],rfl,rfl,h0⟩
 case round=>
  clear h0 hw0;obtain⟨j,pre,hj,rfl,hJr⟩:=hrel;cases j with
  |zero=>
   have t1:decide ((0:Int)<=((0:Nat):Int) - 1)=false:=by simp
   gi_wp2
   go_end0
   exact⟨⟨_,rfl⟩,pre,by omega,hJr⟩
  |succ m=>
   have e1:((m+1:Nat):Int) - 1=(m:Int):=by omega
   rw[e1];obtain⟨b0,hrd⟩:=hJ _ _ hJr;obtain⟨g,rfl,q0,q1,q2,q3⟩:=hrd m (by omega)
   have hm1:(m:Int)<(xs.length:Int):=by omega
   have hwm:IntKind.i64.wrap ((m:Int) - 1)=(m:Int) - 1:=aP _ (by omega)
   obtain⟨fn,tmps,assign,body,hy,hR⟩:=hY pre m wr hJr (by omega)
   unfold EW at hy
   gi_wp2
   refine hR.mono ?_
   rintro e W3 ⟨rfl,hJ3⟩;gi_wp2
   go_roundw
   case rel=>exact⟨m,pre++[m],by rw[aX,pX];omega,by go_num,hJ3⟩
   case measure=>simp[dY]
theorem jdO(n:Nat)(A:Option Addr)(k c:Nat)(w:World):
  CallsIn Fence.wide n prog 158 #[.slice A k c] w λe w'=>e=.returned (.func (.func 201) #[] #[.pointer (some w)])/\
   w'=w.alloc (.cells #[.slice A k c] 37):=by
 refine nT func158 rfl trivial ?_ rfl
 simp only[ntmps158,iR,bP,dQ,Nat.reduceAdd,Nat.reduceSub,gW,iG,jh,iM,fJ,gG];gi_wp2
 go_ret
 exact⟨rfl,rfl⟩
def jai(Bs:Nat)(A:Option Addr)(c:Nat)(xs:List eX)(k:Nat)(V:World):Prop:=
 V.cell? Bs=some (.slice A xs.length c)/\∀i,i+k<xs.length->∃g,A=some ⟨g,0,none⟩/\V.cell? ⟨g,i*4,none⟩=some (.int .i64 (hold xs i).aC)/\V.cell? ⟨g,i*4+1,none⟩=some (.int .i64 (hold xs i).aK)/\
  V.cell? ⟨g,i*4+2,none⟩=some (.int .i64 (hold xs i).bin)/\V.cell? ⟨g,i*4+3,none⟩=some (.int .i64 (hold xs i).n)
theorem jbv(n l Bs:Nat)(A:Option Addr)(c:Nat)(xs:List eX)(hn:1<=n)(lZ:xs.length<=1000000)(J:List Nat->World->Prop)(W:World)(hJ:∀pre V,J pre V->jai Bs A c xs pre.length V)
  (hY:∀pre x V,J pre V->(x+pre.length+1=xs.length)->YieldAt Fence.wide (n - 1) prog l #[.int .i64 (x:Nat),uK (hold xs x)] V λe V'=>e=.returned (.bool true)/\J (pre++[x]) V') (h0:J [] W):
  CallsIn Fence.wide n prog 201 (#[.func (.yield l) #[] #[]]++#[.pointer (some Bs)]) W λe V=>(∃v,e=.returned v)/\∃ys,ys.length=xs.length/\J ys V:=by
 change CallsIn Fence.wide n prog _ #[.func (.yield l) #[] #[],.pointer (some Bs)] W _;refine nT func201 rfl trivial ?_ rfl
 simp only[ntmps201,iR,bP,dQ,Nat.reduceAdd,Nat.reduceSub,gW,iG,jh,iM,fJ,gG];obtain⟨b0,_⟩:=hJ _ _ h0;have hw0:IntKind.i64.wrap ((xs.length:Int) - 1)=(xs.length:Int) - 1:=aP _ (by omega)
 gi_wp2
 clear b0;gi_loopw [3] (λi wr=>∃(j:Nat) (pre:List Nat),j+pre.length=xs.length/\i=.int .i64 ((j:Int) - 1)/\J pre wr) (λi _=>(RowKit.intOf i+1).toNat)
 case atStart=>exact⟨xs.length,[],rfl,rfl,h0⟩
 case round=>
  clear h0 hw0;obtain⟨j,pre,hj,rfl,hJr⟩:=hrel;cases j with
  |zero=>
   have t1:decide ((0:Int)<=((0:Nat):Int) - 1)=false:=by simp
   gi_wp2
   go_end0
   exact⟨⟨_,rfl⟩,pre,by omega,hJr⟩
  |succ m=>
   have e1:((m+1:Nat):Int) - 1=(m:Int):=by omega
   rw[e1];obtain⟨b0,hrd⟩:=hJ _ _ hJr;obtain⟨g,rfl,q0,q1,q2,q3⟩:=hrd m (by omega)
   have hm1:(m:Int)<(xs.length:Int):=by omega
   have hwm:IntKind.i64.wrap ((m:Int) - 1)=(m:Int) - 1:=aP _ (by omega)
   obtain⟨fn,tmps,assign,body,hy,hR⟩:=hY pre m wr hJr (by omega)
   unfold uK at hy
   gi_wp2
   refine hR.mono ?_
   rintro e W3 ⟨rfl,hJ3⟩;gi_wp2
   go_roundw
   case rel=>exact⟨m,pre++[m],by rw[aX,pX];omega,by go_num,hJ3⟩
   case measure=>simp[dY]
end
end Wh
