/- Texts of the claim, joined. -/
import Derived.RangeFuncNested
import Derived.RangeFuncBox
import Derived.RangeFuncLeaves
import Derived.RangeFuncCalls
import Derived.Shelf.Abstract
import Derived.OwnWalkIn
import Derived.TacticsInMore
import Derived.LoopNIn
import Derived.LoopIn
import Derived.Maps.AppendAt
import Derived.Test.YtfhfkijmebhgmaaGreatQ18
set_option maxHeartbeats 20000000
set_option maxRecDepth 100000
namespace Wh
open Go Go.RowKit Go.Shelf Go.Proofs Tryz
attribute [local go_sem] au
theorem Y3 {α:Type} (enc:α→List Value) (l:List α) (k:Nat) (x:α):(l.take k++x::l.drop k).flatMap enc=(l.take k).flatMap enc++enc x++(l.drop k).flatMap enc:=by
 simp
theorem yh {α:Type} (l:List α) (k:Nat) (x:α) (h:k≤l.length):(l.take k++x::l.drop k).length=l.length+1:=by
 simp;omega
def Jp (base:Nat) (w:World) (l:List Hold) (e:Ending) (w':World):Prop:=∃ v',e=.returned v'∧Own bM 4 46 w' base v' l∧Below base w w'
theorem jks (w:World) (base:Nat) (v:Value) (l:List Hold) (x:Hold) (vb:Nat) (hown:Own bM 4 46 w base v l) (hn:l.length≤100000) (hbase:base≤w.heap.size) (hx:dw w vb 46 (bM x)):
  Calls prog 165 #[v,.int .i64 l.length,.slice (some ⟨vb,0,none⟩) 1 1] w (Jp base w (l++[x])):=by
 have hcx:∀ j u,(bM x)[j]?=some u→w.cell? ((⟨vb,0,none⟩:Addr).add j)=some u:=fun j u hj=>by rw [jq,iV];exact hx.cell hj
 obtain ⟨A,c,rfl⟩:=hown.isSlice;by_cases h0:l.length=0
 ·obtain rfl:l=[]:=GH h0;have hA:A=none∨∃ g cap,A=some ⟨g,0,none⟩∧c=cap:=by
   rcases hown.2 with ⟨h1,_⟩|⟨g,cap,cur,h1,_⟩
   ·left;simp at h1;exact h1.1
   ·right;simp at h1;exact ⟨g,cap,h1.1,h1.2⟩
  have hcap:c≤9223372036854775807:=by
   rcases hown.2 with ⟨h1,_⟩|⟨g,cap,cur,h1,_,_,_,h5,_⟩
   ·simp at h1;omega
   ·simp at h1;unfold maxLen at h5;omega
  rcases hA with rfl|⟨g,cap,rfl,rfl⟩
  all_goals
   go_enter func165,ntmps165
   go_wp2_with (at_builtin;refine aU ?_)
   all_goals
    unfold Hid;refine gK _ rfl (.tmp 23) (.tmp 24) 28 46 rfl base _ 4 32 underlying28 ou rfl (by decide) (by decide) _ [] x rfl hown ⟨vb,0,none⟩ 1 rfl rfl hcx (pG x) (by simp) hbase ?_
    intro v1 w1 hown1 hg1 Zn xk;go_wp2_with fail;go_ret
    exact ⟨_,rfl,hown1,xk⟩
 ·obtain ⟨g,cap,cur,hv,hbg,hg,hlc,hcm,hcs,htake⟩:=hown.row (by omega)
  injection hv with h1 h2 h3
  subst h1 h3;have hcm':c≤9223372036854775807:=by unfold maxLen at hcm;omega
  have hg':=Lib.hid hg;clear hcm hcs htake hg;have hce:c=l.length∨l.length<c:=by omega
  rcases hce with rfl|hce
  all_goals
   go_enter func165,ntmps165
   go_wp2_with (at_builtin;refine aU ?_)
   unfold Hid;refine gK _ rfl (.tmp 23) (.tmp 24) 28 46 rfl base _ 4 32 underlying28 ou rfl (by decide) (by decide) _ l x rfl hown ⟨vb,0,none⟩ 1 rfl rfl hcx (pG x) (by omega) hbase ?_
   intro v1 w1 hown1 hg1 Zn xk;go_wp2_with fail;go_ret
   exact ⟨_,rfl,hown1,xk⟩
theorem jh5 (w:World) (base:Nat) (l:List Hold) (x:Hold) (k g vb:Nat) (cur:List Value) (hk:k<l.length) (hn:l.length≤100000) (hbase:base≤w.heap.size)
  (hg:dw w g 46 cur) (htake:cur=l.flatMap bM) (hx:dw w vb 46 (bM x)):
  Calls prog 165 #[.slice (some ⟨g,0,none⟩) l.length l.length,.int .i64 k,.slice (some ⟨vb,0,none⟩) 1 1] w (Jp base w (l.take k++x::l.drop k)):=by
 have hk4:∀ x,(bM x).length=4:=fun _=>rfl
 obtain ⟨i0,hi0,hz0,hsz0,jgg⟩:=ou;have hcx:∀ j u,(bM x)[j]?=some u→w.cell? ((⟨vb,0,none⟩:Addr).add j)=some u:=fun j u hj=>by rw [jq,iV];exact hx.cell hj
 obtain ⟨G,hG⟩:∃ G,G=grownCap w (l.length+1) l.length 46:=⟨_,rfl⟩;have hGn:l.length+1≤G:=by rw [hG];exact grownCap_ge w _ _ _
 have hGm:G≤maxLen:=by rw [hG];exact grownCap_le_maxLen w _ _ _ (by unfold maxLen;omega)
 have hG63:G≤9223372036854775807:=by unfold maxLen at hGm;omega
 have hzl:∀ n,(Builtin.zeroCells #[.int .i64 0,.int .i64 0,.int .i64 0,.int .i64 0] n).toList.length=n*4:=fun n=>by rw [Bv];exact nR _ n
 obtain ⟨R,hR⟩:∃ R:List Value,R=(l.take k).flatMap bM++(Builtin.zeroCells #[.int .i64 0,.int .i64 0,.int .i64 0,.int .i64 0] (l.length+1 - k)).toList++(Builtin.zeroCells #[.int .i64 0,.int .i64 0,.int .i64 0,.int .i64 0] (G - (l.length+1))).toList:=⟨_,rfl⟩;have hRl:R.length=G*4:=by
  rw [hR,dK,dK,flat_length bM 4 hk4,dS,hzl,hzl];omega
 have hold:(Builtin.firstCells i0.size k (.slice (some ⟨g,0,none⟩) k l.length)).run prog w.drew=.ok ((l.take k).flatMap bM).toArray w.drew:=by
  rw [hsz0];exact Gj w.drew 4 k ⟨g,0,none⟩ k l.length ((l.take k).flatMap bM) (by rw [flat_length bM 4 hk4,dS];omega) (fun j v hj=>by
   rw [jq,iV];refine hg.drew.cell ?_
   rw [← yB bM 4 hk4,nI] at hj
   split at hj
   ·rw [htake];exact hj
   ·cases hj)
 have hrz:∀ ty,(Builtin.append_ #[28,3] ty #[.slice (some ⟨g,0,none⟩) k l.length,.int .i64 ((l.length:Int)+1 - (k:Int))]).run prog w=
   .ok (.slice (some ⟨w.heap.size,0,none⟩) (l.length+1) G) (w.drew.alloc (.cells R.toArray 46)):=fun ty=>by
  have h:=Lib.run_append_grow_zeros w 28 3 ty 46 i0 _ .i64 .i64 underlying28 underlying3 hi0 hz0 (some ⟨g,0,none⟩) k l.length ((l.take k).flatMap bM) hold (l.length+1 - k) (by omega) (by omega) (by omega) (by omega) (by rw [jgg];omega)
   (by rw [jgg,show k+(l.length+1 - k)=l.length+1 by omega];exact growslice_fits (by omega) (by omega))
  rw [show k+(l.length+1 - k)=l.length+1 by omega,← hG,show ((l.length+1 - k:Nat):Int)=(l.length:Int)+1 - (k:Int) by omega] at h
  rw [h,hR];congr 3
  apply Array.ext';simp [Value.cells]
 obtain ⟨W1,hW1⟩:∃ W1,W1=w.drew.alloc (.cells R.toArray 46):=⟨_,rfl⟩;rw [← hW1] at hrz
 have hN:dw W1 w.heap.size 46 R:=by rw [hW1];exact dw.new w.drew _ R.toArray
 have hgW:dw W1 g 46 cur:=by
  rw [hW1];exact hg.drew.alloc _
 have hxW:dw W1 vb 46 (bM x):=by
  rw [hW1];exact hx.drew.alloc _
 have hs4:(prog.info? 46).map (·.size)=some 4:=by rw [hi0];simp [hsz0]
 have hR1:(spl R (k*4) (bM x)).length=R.length:=pO (by rw [hk4,hRl];omega)
 have hcp1:∀ ty,(Builtin.copy_ #[28,28] ty #[.slice (some ⟨w.heap.size,k*4,none⟩) (l.length+1 - k) (G - k),.slice (some ⟨vb,0,none⟩) 1 1]).run prog W1=.ok (goInt 1) (W1.setRow w.heap.size (spl R (k*4) (bM x)).toArray):=fun ty=>
  zZ (P:=prog) W1 _ _ ty 46 4 w.heap.size (k*4) _ _ ⟨vb,0,none⟩ 1 1 R 46 (bM x) underlying28 hs4 hN 1 (by simp only [KX];split<;>omega) (hk4 x) (fun j u hj=>by rw [jq,iV];exact hxW.cell hj) (by rw [hk4,hRl];omega) (pG x)
 obtain ⟨W2,hW2⟩:∃ W2,W2=W1.setRow w.heap.size (spl R (k*4) (bM x)).toArray:=⟨_,rfl⟩;rw [← hW2] at hcp1
 have hN2:dw W2 w.heap.size 46 (spl R (k*4) (bM x)):=by rw [hW2];exact hN.row _
 have jn9:dw W2 g 46 cur:=by rw [hW2];exact hgW.other (by have:=hg.lt;omega) _
 have hds:(l.drop k).flatMap bM=cur.drop (k*4):=by rw [htake,AL bM 4 hk4]
 have hdl:((l.drop k).flatMap bM).length=(l.length - k)*4:=by rw [flat_length bM 4 hk4,jT]
 have hcp2:∀ (W:World),W.heap=W2.heap→∀ ty,(Builtin.copy_ #[28,28] ty #[.slice (some ⟨w.heap.size,(k+1)*4,none⟩) (l.length+1 - (k+1)) (G - (k+1)),.slice (some ⟨g,k*4,none⟩) (l.length - k) (l.length - k)]).run prog W=
   .ok (goInt (l.length - k:Nat)) (W.setRow w.heap.size (spl (spl R (k*4) (bM x)) ((k+1)*4) ((l.drop k).flatMap bM)).toArray):=fun W hW ty=>
  zZ (P:=prog) W _ _ ty 46 4 w.heap.size ((k+1)*4) _ _ ⟨g,k*4,none⟩ _ _ (spl R (k*4) (bM x)) 46 ((l.drop k).flatMap bM) underlying28 hs4 (by unfold dw;rw [hW];exact hN2) (l.length - k) (by simp only [KX];split<;>omega) hdl
   (fun j u hj=>by
    rw [jq];have jqF:dw W g 46 cur:=by unfold dw;rw [hW];exact jn9
    refine jqF.cell ?_
    rw [hds,rP] at hj
    exact hj)
   (by rw [hdl,hR1,hRl];omega) (fun u hu=>by
    obtain ⟨y,_,hy⟩:=Bj.1 hu;exact pG y u hy)
 have hfin:∀ (W:World),W.heap=W2.heap→W.os=W2.os→W.tape=W2.tape→W.output=W2.output→Jp base w (l.take k++x::l.drop k) (.returned (.slice (some ⟨w.heap.size,0,none⟩) (l.length+1) G)) (W.setRow w.heap.size (spl (spl R (k*4) (bM x)) ((k+1)*4) ((l.drop k).flatMap bM)).toArray):=by
  intro W hW e1 e2 e3;have hNW:dw W w.heap.size 46 (spl R (k*4) (bM x)):=by unfold dw;rw [hW];exact hN2
  refine ⟨_,rfl,?_,?_⟩
  ·rw [show l.length+1=(l.take k++x::l.drop k).length from (yh l k x (by omega)).symm]
   refine Own.Hg hk4 hbase (hNW.row _) (by rw [yh l k x (by omega)];omega) hGm (by rw [pO (by rw [hdl,hR1,hRl];omega),hR1,hRl]) ?_
   rw [yh l k x (by omega),Y3,show (l.length+1)*4=(k+1)*4+((l.drop k).flatMap bM).length by rw [hdl];omega,VE (by rw [hR1,hRl];omega)]
   rw [show (k+1)*4=k*4+(bM x).length by rw [hk4];omega,VE (by rw [hRl];omega),hR,jo,jo,KZ (by rw [flat_length bM 4 hk4,dS];omega),A8 (by rw [flat_length bM 4 hk4,dS];omega),jo]
  ·have b1:Below base w W2:=by
    rw [hW2,hW1];exact ET ((((aj base w).drew).alloc hbase _)) hbase _
   have b2:Below base w W:=⟨e1.trans b1.os,e2.trans b1.tape,e3.trans b1.output,by rw [hW];exact b1.size,fun q hq=>by rw [hW];exact b1.block q hq⟩
   exact ET b2 hbase _
 have zy:=Lib.hid hfin;have jod:∀ (W:World),W=W1→∀ ty,(Builtin.copy_ #[28,28] ty #[.slice (some ⟨w.heap.size,k*4,none⟩) (l.length+1 - k) (G - k),.slice (some ⟨vb,0,none⟩) 1 1]).run prog W=.ok (goInt 1) W2:=fun W hW ty=>by rw [hW];exact hcp1 ty
 have hW1':w.drew.alloc (.cells R.toArray 46)=W1:=hW1.symm;have hw1:IntKind.i64.wrap ((k:Int)+1)=(k:Int)+1:=by rw [qU];omega
 have hb1:(0:Int)≤(k:Int)+1:=by omega
 have hb2:(k:Int)+1≤(l.length:Int)+1:=by omega
 have hb3:(k:Int)≤(l.length:Int):=by omega
 have htn:((k:Int)+1).toNat=k+1:=by omega
 have hGk:¬ (G=k):=by omega
 have jq6:¬ (G=k+1):=by omega
 have hlk:¬ (l.length=k):=by omega
 have hkl:¬ ((k:Int)=(l.length:Int)):=by omega
 clear hfin hcp1 hW1 hW2 hN hgW hxW hN2 jn9 hds hdl hR1 hRl hR hold hG hGm hi0 htake hcx hg hx hs4;go_enter func165,ntmps165
 go_wp2_with (first
  |(at_builtin;refine Lib.wpList_append_run _ rfl _ _ _ _ rfl _ _ rfl rfl _ _ (hrz _) ?_)
  |(refine GY _ rfl _ _ 28 28 rfl _ _ rfl rfl (jod _ rfl _) ?_))
 go_region_law (refine LM _ rfl (.tmp 50) (.tmp 53) 28 28 rfl (.slice (some ⟨w.heap.size,(k+1)*4,none⟩) (l.length+1 - (k+1)) (G - (k+1))) (.slice (some ⟨g,k*4,none⟩) (l.length - k) (l.length - k)) (by simp [Act.eval,Act.put]) (by simp [Act.eval,Act.put]) (hcp2 W2.drew rfl _) ?_)
 go_wp2_with fail;go_ret
 exact zy.out W2.drew rfl rfl rfl rfl
theorem jeu {L:List Value} {o:Nat} {cs:List Value} (h:o≤L.length):(spl L o cs).drop o=cs++L.drop (o+cs.length):=by
 unfold spl;rw [jo,List.drop_append_of_le_length (by rw [dS];omega),XO (by rw [dS];omega),lq]
theorem jfo (w:World) (base:Nat) (l:List Hold) (x:Hold) (k g vb cap:Nat) (cur:List Value) (hk:k<l.length) (hn:l.length≤100000) (hbg:base≤g) (hroom:l.length+1≤cap) (hcm:cap≤maxLen) (hvb:vb≠g)
  (hg:dw w g 46 cur) (hcs:cur.length=cap*4) (htake:cur.take (l.length*4)=l.flatMap bM) (hx:dw w vb 46 (bM x)):
  Calls prog 165 #[.slice (some ⟨g,0,none⟩) l.length cap,.int .i64 k,.slice (some ⟨vb,0,none⟩) 1 1] w (Jp base w (l.take k++x::l.drop k)):=by
 have hk4:∀ x,(bM x).length=4:=fun _=>rfl
 obtain ⟨i0,hi0,hz0,hsz0,jgg⟩:=ou;have hs4:(prog.info? 46).map (·.size)=some 4:=by rw [hi0];simp [hsz0]
 have hcap63:cap≤9223372036854775807:=by unfold maxLen at hcm;omega
 obtain ⟨D,hD⟩:∃ D,D=(l.drop k).flatMap bM:=⟨_,rfl⟩;have hDl:D.length=(l.length - k)*4:=by rw [hD,flat_length bM 4 hk4,jT]
 have hD1:∀ u∈D,u.oneCell'=true:=fun u hu=>by
  rw [hD] at hu
  obtain ⟨y,_,hy⟩:=Bj.1 hu;exact pG y u hy
 have hov:∀ lb cb,(callFunc 181 #[.slice (some ⟨vb,0,none⟩) 1 1,.slice (some ⟨g,(k+1)*4,none⟩) lb cb]).run prog w=.ok (.value (.bool false)) w:=fun lb cb=>by
  rw [run_callFunc_extern (fn:=f181) (by kernel_rfl) (by kernel_rfl) (by kernel_rfl) (by kernel_rfl) (e:=Extern.SlicesOverlaps.overlaps #[28,28] #[4]) (by kernel_rfl),
   Lib.run_overlaps_apart w 28 4 46 underlying28 4 sizeOf46 ⟨vb,0,none⟩ ⟨g,(k+1)*4,none⟩ 1 1 lb cb hvb _ _ _ _ hx.shape hg.shape (by rw [hcs];omega) (hx.frozen _) (hx.frozen _)]
  rfl
 have hsrc:∀ j v,D[j]?=some v→w.drew.cell? ((⟨g,k*4,none⟩:Addr).add j)=some v:=fun j v hj=>by
  rw [jq];refine hg.drew.cell ?_
  rw [hD,← AL bM 4 hk4,← htake,rP,nI] at hj
  split at hj
  ·exact hj
  ·cases hj
 have hcp1:∀ ty,(Builtin.copy_ #[28,28] ty #[.slice (some ⟨g,(k+1)*4,none⟩) (l.length+1 - (k+1)) (cap - (k+1)),.slice (some ⟨g,k*4,none⟩) (l.length+1 - k) (cap - k)]).run prog w.drew=
   .ok (goInt (l.length - k:Nat)) (w.drew.setRow g (spl cur ((k+1)*4) D).toArray):=fun ty=>
  zZ (P:=prog) w.drew _ _ ty 46 4 g ((k+1)*4) _ _ ⟨g,k*4,none⟩ _ _ cur 46 D underlying28 hs4 hg.drew (l.length - k) (by simp only [KX];split<;>omega) hDl hsrc (by rw [hDl,hcs];omega) hD1
 obtain ⟨W1,hW1⟩:∃ W1,W1=w.drew.setRow g (spl cur ((k+1)*4) D).toArray:=⟨_,rfl⟩;rw [← hW1] at hcp1
 have hM:(spl cur ((k+1)*4) D).length=cap*4:=by rw [pO (by rw [hDl,hcs];omega),hcs]
 have hg1:dw W1 g 46 (spl cur ((k+1)*4) D):=by rw [hW1];exact hg.drew.row _
 have hx1:dw W1 vb 46 (bM x):=by rw [hW1];exact hx.drew.other hvb _
 have hcp2:∀ ty,(Builtin.copy_ #[28,28] ty #[.slice (some ⟨g,k*4,none⟩) (l.length+1 - k) (cap - k),.slice (some ⟨vb,0,none⟩) 1 1]).run prog W1=.ok (goInt 1) (W1.setRow g (spl (spl cur ((k+1)*4) D) (k*4) (bM x)).toArray):=fun ty=>
  zZ (P:=prog) W1 _ _ ty 46 4 g (k*4) _ _ ⟨vb,0,none⟩ 1 1 _ 46 (bM x) underlying28 hs4 hg1 1 (by simp only [KX];split<;>omega) (hk4 x) (fun j u hj=>by rw [jq,iV];exact hx1.cell hj) (by rw [hk4,hM];omega) (pG x)
 have hfin:Jp base w (l.take k++x::l.drop k) (.returned (.slice (some ⟨g,0,none⟩) (l.length+1) cap)) (W1.setRow g (spl (spl cur ((k+1)*4) D) (k*4) (bM x)).toArray):=by
  refine ⟨_,rfl,?_,?_⟩
  ·rw [show l.length+1=(l.take k++x::l.drop k).length from (yh l k x (by omega)).symm]
   refine Own.Hg hk4 hbg (hg1.row _) (by rw [yh l k x (by omega)];omega) hcm (by rw [pO (by rw [hk4,hM];omega),hM]) ?_
   rw [yh l k x (by omega),Y3]
   have e1:spl (spl cur ((k+1)*4) D) (k*4) (bM x)=(cur.take (k*4)++bM x)++(D++cur.drop ((k+1)*4+D.length)):=by
    have a1:spl (spl cur ((k+1)*4) D) (k*4) (bM x)=(spl cur ((k+1)*4) D).take (k*4)++bM x++(spl cur ((k+1)*4) D).drop (k*4+(bM x).length):=rfl;have a2:(spl cur ((k+1)*4) D).take (k*4)=cur.take (k*4):=by
     have:(spl cur ((k+1)*4) D).take (k*4)=((spl cur ((k+1)*4) D).take ((k+1)*4)).take (k*4):=by rw [yP,pW (by omega)]
     rw [this,VD (by rw [hcs];omega),yP,pW (by omega)]
    rw [a1,a2,hk4,show k*4+4=(k+1)*4 by omega,jeu (by rw [hcs];omega)]
   have e2:cur.take (k*4)=(l.take k).flatMap bM:=by
    have:cur.take (k*4)=(cur.take (l.length*4)).take (k*4):=by rw [yP,pW (by omega)]
    rw [this,htake,yB bM 4 hk4]
   rw [e1,e2,← jo,KZ (by simp only [dK,hDl,flat_length bM 4 hk4,dS,hk4];omega),A8 (by simp only [dK,hDl,flat_length bM 4 hk4,dS,hk4];omega),hD]
  ·rw [hW1];exact ET (ET (aj base w).drew hbg _) hbg _
 have zy:=Lib.hid hfin;have hw1:IntKind.i64.wrap ((k:Int)+1)=(k:Int)+1:=by rw [qU];omega
 have hb1:(0:Int)≤(k:Int)+1:=by omega
 have hb2:(k:Int)+1≤(l.length:Int)+1:=by omega
 have hb3:(k:Int)≤(l.length:Int):=by omega
 have hb4:(k:Int)≤(l.length:Int)+1:=by omega
 have htn:((k:Int)+1).toNat=k+1:=by omega
 have hGk:¬ (cap=k):=by omega
 have jq6:¬ (cap=k+1):=by omega
 have hkl:¬ ((k:Int)=(l.length:Int)):=by omega
 clear hfin hW1 hg1 hx1 hD hDl hD1 hsrc hM hi0 htake hcs hg hx hs4 hcm;go_enter func165,ntmps165
 go_wp2_with (simp only [hov]);go_region_law (refine LM _ rfl (.tmp 73) (.tmp 76) 28 28 rfl (.slice (some ⟨g,(k+1)*4,none⟩) (l.length+1 - (k+1)) (cap - (k+1))) (.slice (some ⟨g,k*4,none⟩) (l.length+1 - k) (cap - k)) (by simp [Act.eval,Act.put]) (by simp [Act.eval,Act.put]) (hcp1 _) ?_)
 go_wp2_with (refine GY _ rfl _ _ 28 28 rfl _ _ rfl rfl (hcp2 _) ?_)
 go_ret
 exact zy.out
theorem jcH (w:World) (base:Nat) (v:Value) (l:List Hold) (x:Hold) (k vb:Nat) (hown:Own bM 4 46 w base v l) (hk:k≤l.length) (hn:l.length≤100000) (hbase:base≤w.heap.size) (hx:dw w vb 46 (bM x)) (hvb:v.ownBlock≠some vb):
  Calls prog 165 #[v,.int .i64 k,.slice (some ⟨vb,0,none⟩) 1 1] w (Jp base w (l.take k++x::l.drop k)):=by
 rcases Ee hk with hlt|rfl
 ·obtain ⟨g,cap,cur,rfl,hbg,hg,hlc,hcm,hcs,htake⟩:=hown.row (by omega)
  rcases Ee hlc with h1|rfl
  ·exact jfo w base l x k g vb cap cur hlt hn hbg h1 hcm (fun e=>hvb (by rw [e];rfl)) hg hcs htake hx
  ·exact jh5 w base l x k g vb cur hlt hn hbase hg (by rw [← htake,A8 (by omega)]) hx
 ·have h:=jks w base v l x vb hown hn hbase hx;rw [jE,Lu];exact h
end Wh
namespace Wh
open Go Go.RowKit Go.Shelf Go.Proofs Tryz
attribute [local go_sem] au
def jaf (l:List Hold) (o ln b:Int) (w:World) (e:Ending) (w':World):Prop:=
 ∃ v,e=.returned (.tuple #[v,.int .i64 (drop l o ln b).2.1,.int .i64 (drop l o ln b).2.2])∧Own bM 4 46 w' w.heap.size v (drop l o ln b).1∧Below w.heap.size w w'
def ji8 (l:List Hold) (h:Hold) (w:World) (e:Ending) (w':World):Prop:=
 ∃ v,e=.returned (.tuple #[v,.int .i64 (add l h).2])∧Own bM 4 46 w' w.heap.size v (add l h).1∧Below w.heap.size w w'
theorem Np {l:List Hold} (h:bQ l=true):l.length≤72:=by
 have hr:=(bC.1 h).2;have hf:=(bC.1 h).1;have hp:∀ x∈l,0≤place x∧place x<72:=fun x hx=>by
  have:=(gG.1 (hf x hx)).1;unfold jL at this
  unfold place;omega
 have hn:(l.map fun x=>(place x).toNat).Nodup:=by
  rw [List.Nodup,Bg];refine LG ?_ hr
  intro a b ha hb hab;have h1:=hp a ha;have h2:=hp b hb;omega
 have hs:(l.map fun x=>(place x).toNat) ⊆ List.range 72:=fun n hn'=>by
  obtain ⟨x,hx,rfl⟩:=qO.1 hn';have:=hp x hx;exact lu.2 (by omega)
 have:=hn.length_le_of_subset hs;simpa using this
theorem jg1 {l:List Hold} {o ln b:Int} (h:bQ l=false):drop l o ln b=([],0,1):=by unfold drop;rw [h];rfl
theorem jd1 {l:List Hold} {o ln b:Int} (h:bQ l=true) (hf:found l ⟨o,ln,b,0⟩=false):drop l o ln b=([],0,4):=by
 unfold drop;rw [h,ah (by simp),ak (JA h hf)]
theorem jg0 {l:List Hold} {o ln b:Int} (h:bQ l=true) (hf:found l ⟨o,ln,b,0⟩=true):drop l o ln b=(l.eraseIdx (pos l ⟨o,ln,b,0⟩),(hold l (pos l ⟨o,ln,b,0⟩)).n,0):=by
 have hk:=KC h hf;have hn:=jdn h (oV.1 hf).1;simp only at hk
 unfold drop;rw [h,ah (by simp),hk,ah (by omega),Uj h (jdU h hf) rfl hf]
theorem jk6 (w:World) (v:Value) (l:List Hold) (o ln b:Int) (hv:Sl bM w w.heap.size v l):
  Calls prog 101 #[v,.int .i64 o,.int .i64 ln,.int .i64 b] w (jaf l o ln b w):=by
 have hV:=hv;obtain ⟨A,c,rfl,hl,hA⟩:=hv;go_enter func101,ntmps101
 go_wp2_with fail;refine (O6 _ _ _ hV).mono ?_
 rintro e W1 ⟨rfl,hb1⟩;cases hok:bQ l
 ·have hfin:=Lib.hid (jg1 (o:=o) (ln:=ln) (b:=b) hok);have hc:fB l=1:=by unfold fB;rw [hok];rfl
  rw [hc];clear hc hok;go_wp2_with fail;go_ret3
  exact ⟨_,by rw [hfin.out];rfl,by rw [hfin.out];exact Own.nil,hb1⟩
 ·have hc:fB l=0:=SC.2 hok;have hlen:=Np hok;rw [hc];clear hc;have hok':=Lib.hid hok;clear hok;go_wp2_with fail;refine (jgc _ _ l ⟨o,ln,b,0⟩ (hV.grow hb1) hok'.out (by omega)).mono ?_
  rintro e W2 ⟨rfl,hb2⟩;have DV:=hb1.trans (hb2.mono hb1.size);cases hf:found l ⟨o,ln,b,0⟩
  ·have hfin:=Lib.hid (jd1 hok'.out hf);clear hf;go_wp2_with fail;go_ret3
   exact ⟨_,by rw [hfin.out];rfl,by rw [hfin.out];exact Own.nil,DV⟩
  ·have hfin:=Lib.hid (jg0 hok'.out hf);have hlt:=(oV.1 hf).1;clear hf;generalize pos l ⟨o,ln,b,0⟩=k at hlt hfin ⊢
   obtain ⟨joX,EX,b0,b1,b2,b3⟩:=(hA.up DV DV.size).hold hlt;have hw1:IntKind.i64.wrap ((k:Int)+1)=(k:Int)+1:=by rw [qU];omega
   have hki:(k:Int)<(l.length:Int):=by omega
   have hVd:Sl bM W2.drew W2.drew.heap.size (.slice A l.length c) l:=(hV.grow DV).drew;have hd2:Below W2.heap.size W2 W2.drew:=(aj _ _).drew;clear b0 b1 b2 hok' hb1 hb2 hA;go_wp2_with fail;go_region_held3 (fun w'=>w'.cell? ⟨dD A,jy A+k*4+3,none⟩=some (.int .i64 (hold l k).n)) (first|exact z1|go_keep)
    (first
    |(go_at_call 111;refine (EO _ _ l hVd (by omega)).mono ?_;rintro e W9 ⟨u9,rfl,hu9,Ci⟩;have hd9:=hd2.trans (Ci.mono hd2.size);have z1:=(hd9.cell (p:=⟨_,_,none⟩) EX).trans b3)
    |(go_at_call 155;refine (jiP _ _ u9 l k hu9 hlt (by omega)).mono ?_;rintro e W10 ⟨u10,rfl,TR,vC,hat10⟩;have hd10:=hd9.grown vC hd9.size (fun q hq=>(hu9.size q hq).1);have z1:=(hd10.cell (p:=⟨_,_,none⟩) EX).trans b3))
   go_wp2_with fail;go_ret3
   exact ⟨_,by rw [hfin.out];rfl,by rw [hfin.out];exact TR.from_ DV.size,DV.trans (hd10.mono DV.size)⟩
theorem add_bad {l:List Hold} {h:Hold} (hb:bQ l=false∨eX h=false):add l h=([],1):=by
 unfold add;rcases hb with hb|hb
 ·rw [hb];rfl
 ·cases bQ l
  ·rfl
  ·rw [hb];rfl
theorem ji5 {l:List Hold} {h:Hold} (h1:bQ l=true) (h2:eX h=true) (hf:found l h=false):add l h=(l.take (pos l h)++h::l.drop (pos l h),0):=by
 have hk:=JA h1 hf;obtain ⟨k1,k2,k3⟩:=gG.1 h2;unfold add;rw [h1,h2,ah (by simp),ah (by simp),hk,ah (by omega)]
 have e:({h with n:=0+h.n}:Hold)=h:=by cases h;simp
 rw [e,jem h1 k1 (by omega) hf]
theorem jhm {l:List Hold} {h:Hold} (h1:bQ l=true) (h2:eX h=true) (hf:found l h=true) (hn:200<(hold l (pos l h)).n+h.n):add l h=([],3):=by
 have hk:=KC h1 hf;unfold add;rw [h1,h2,ah (by simp),ah (by simp),hk,ak hn]
theorem jhl {l:List Hold} {h:Hold} (h1:bQ l=true) (h2:eX h=true) (hf:found l h=true) (hn:(hold l (pos l h)).n+h.n≤200):
  add l h=(l.set (pos l h) {hold l (pos l h) with n:=(hold l (pos l h)).n+h.n},0):=by
 have hk:=KC h1 hf;obtain ⟨f1,f2⟩:=oV.1 hf;obtain ⟨e1,e2,e3⟩:=zo.1 f2;have hn1:=jdn h1 f1;have hn2:=(gG.1 h2).2;unfold add;rw [h1,h2,ah (by simp),ah (by simp),hk,ah (by omega)]
 rw [Ui h1 (h:={h with n:=(hold l (pos l h)).n+h.n}) (gG.1 h2).1 (by simp only;omega) (by rw [WU];exact hf),je3]
 simp only [e1,e2,e3]
theorem joc (w:World) (v:Value) (l:List Hold) (h:Hold) (hv:Sl bM w w.heap.size v l):
  Calls prog 124 #[v,kG h] w (ji8 l h w):=by
 have hV:=hv;obtain ⟨A,c,rfl,hl,hA⟩:=hv;have hb0:Below w.heap.size w (w.alloc (.cells #[.int .i64 (h).order,.int .i64 (h).line,.int .i64 (h).bin,.int .i64 (h).n] 46)):=(aj _ _).alloc (aA _) _;unfold kG;go_enter func124,ntmps124
 go_wp2_with fail;refine (O6 _ _ _ (hV.grow hb0)).mono ?_
 rintro e W1 ⟨rfl,hb1⟩;have TT:=hb0.trans (hb1.mono hb0.size);have hsz:=hb1.size;obtain ⟨hc1,hf1⟩:=nP hb1;cases hok:bQ l
 ·have hfin:=Lib.hid (add_bad (h:=h) (.inl hok));have hc:fB l=1:=by unfold fB;rw [hok];rfl
  rw [hc];clear hc hok;go_wp2_with fail;go_ret2
  exact ⟨_,by rw [hfin.out];rfl,by rw [hfin.out];exact Own.nil,TT⟩
 ·have hc:fB l=0:=SC.2 hok;have hlen:=Np hok;rw [hc];clear hc;have hok':=Lib.hid hok;clear hok;go_wp2_with fail;refine (Rk h _).mono ?_
  rintro e W2 ⟨rfl,hb2⟩;have xJ:=hb1.trans (hb2.mono hb1.size);have DV:=hb0.trans (xJ.mono hb0.size);obtain ⟨hc2,hf2⟩:=nP xJ;clear hc1 hf1;cases hfi:eX h
  ·have hfin:=Lib.hid (add_bad (l:=l) (.inr hfi));go_wp2_with fail;go_ret2
   exact ⟨_,by rw [hfin.out];rfl,by rw [hfin.out];exact Own.nil,DV⟩
  ·have jip:=Lib.hid hfi;have hlt2:w.heap.size<W2.heap.size:=by have:=xJ.size;simp at this;omega
   go_wp2_with fail;clear hfi;refine (jgc _ _ l h (hV.grow DV) hok'.out (by omega)).mono ?_
   rintro e W3 ⟨rfl,hb3⟩;have Ie:=xJ.trans (hb3.mono xJ.size);have Kw:=hb0.trans (Ie.mono hb0.size);obtain ⟨hc3,hf3⟩:=nP Ie;have hlt3:w.heap.size<W3.heap.size:=by have:=hb3.size;omega
   obtain ⟨y0,y1,y2,y3⟩:W3.cell? ⟨w.heap.size,0,none⟩=some (.int .i64 h.order)∧W3.cell? ⟨w.heap.size,1,none⟩=some (.int .i64 h.line)∧W3.cell? ⟨w.heap.size,2,none⟩=some (.int .i64 h.bin)∧W3.cell? ⟨w.heap.size,3,none⟩=some (.int .i64 h.n):=
    ⟨(hc3 _ _ (by simp)).trans (by simp),(hc3 _ _ (by simp)).trans (by simp),(hc3 _ _ (by simp)).trans (by simp),(hc3 _ _ (by simp)).trans (by simp)⟩
   clear hc2 hf2 hc3 hf3 hb1 hb2 xJ hsz;have jfJ:=(LV l h).1;cases hf:found l h
   ·have hfin:=Lib.hid (ji5 hok'.out jip.out hf);clear hf;generalize pos l h=k at hfin jfJ ⊢
    have hVd:Sl bM W3.drew W3.drew.heap.size (.slice A l.length c) l:=(hV.grow Kw).drew;have hd3:Below W3.heap.size W3 W3.drew:=(aj _ _).drew;have he3:Below W3.heap.size W3 (W3.drew.alloc (.cells #[.int .i64 (h).order,.int .i64 (h).line,.int .i64 (h).bin,.int .i64 (h).n] 46)):=hd3.alloc (aA _) _;have hVe:=(hV.grow Kw).grow he3;have hEb:dw (W3.drew.alloc (.cells #[.int .i64 (h).order,.int .i64 (h).line,.int .i64 (h).bin,.int .i64 (h).n] 46)) W3.heap.size 46 (bM h):=dw.new W3.drew 46 #[.int .i64 (h).order,.int .i64 (h).line,.int .i64 (h).bin,.int .i64 (h).n];go_wp2_with fail;go_region_held3 (fun w'=>w'.cell? ⟨w.heap.size,0,none⟩=some (.int .i64 h.order)∧w'.cell? ⟨w.heap.size,1,none⟩=some (.int .i64 h.line)∧w'.cell? ⟨w.heap.size,2,none⟩=some (.int .i64 h.bin)∧w'.cell? ⟨w.heap.size,3,none⟩=some (.int .i64 h.n)) (first|exact ⟨z1,z2,z3,z4⟩|go_keep)
     (first
     |(go_at_call 111;refine (EO _ _ l hVd (by omega)).mono ?_;rintro e W9 ⟨u9,rfl,hu9,Ci⟩;have hd9:=hd3.trans (Ci.mono hd3.size);have z1:=(hd9.cell (p:=⟨w.heap.size,0,none⟩) hlt3).trans y0;have z2:=(hd9.cell (p:=⟨w.heap.size,1,none⟩) hlt3).trans y1;have z3:=(hd9.cell (p:=⟨w.heap.size,2,none⟩) hlt3).trans y2;have z4:=(hd9.cell (p:=⟨w.heap.size,3,none⟩) hlt3).trans y3)
     |(go_at_call 111;refine (EO _ _ l hVe (by omega)).mono ?_;rintro e W19 ⟨u19,rfl,jnD,jll⟩;have jgd:=he3.trans (jll.mono he3.size);have i13:=hEb.below jll (by simp);have z1:=(jgd.cell (p:=⟨w.heap.size,0,none⟩) hlt3).trans y0;have z2:=(jgd.cell (p:=⟨w.heap.size,1,none⟩) hlt3).trans y1;have z3:=(jgd.cell (p:=⟨w.heap.size,2,none⟩) hlt3).trans y2;have z4:=(jgd.cell (p:=⟨w.heap.size,3,none⟩) hlt3).trans y3)
     |(go_at_call 165;have i1:=hu9.alloc (.cells #[.int .i64 (h).order,.int .i64 (h).line,.int .i64 (h).bin,.int .i64 (h).n] 46);have i2:W3.drew.heap.size≤(W9.alloc (.cells #[.int .i64 (h).order,.int .i64 (h).line,.int .i64 (h).bin,.int .i64 (h).n] 46)).heap.size:=(by have:=hd9.size;simp;omega);have i3:dw (W9.alloc (.cells #[.int .i64 (h).order,.int .i64 (h).line,.int .i64 (h).bin,.int .i64 (h).n] 46)) W9.heap.size 46 (bM h):=dw.new W9 46 #[.int .i64 (h).order,.int .i64 (h).line,.int .i64 (h).bin,.int .i64 (h).n];have i4:u9.ownBlock≠some W9.heap.size:=(fun hq=>(Nat.lt_irrefl _ (hu9.size _ hq).2));refine (jcH _ _ u9 l h k W9.heap.size i1 jfJ (by omega) i2 i3 i4).mono ?_;rintro e W10 ⟨u10,rfl,TR,jlm⟩;have hd10:=(hd9.alloc hd9.size (.cells #[.int .i64 (h).order,.int .i64 (h).line,.int .i64 (h).bin,.int .i64 (h).n] 46)).trans jlm;have z1:=(hd10.cell (p:=⟨w.heap.size,0,none⟩) hlt3).trans y0;have z2:=(hd10.cell (p:=⟨w.heap.size,1,none⟩) hlt3).trans y1;have z3:=(hd10.cell (p:=⟨w.heap.size,2,none⟩) hlt3).trans y2;have z4:=(hd10.cell (p:=⟨w.heap.size,3,none⟩) hlt3).trans y3)
     |(go_at_call 165;have i14:u19.ownBlock≠some W3.heap.size:=(fun hq=>(by have:=(jnD.size _ hq).1;simp at this;omega));refine (jcH _ _ u19 l h k W3.heap.size jnD jfJ (by omega) jll.size i13 i14).mono ?_;rintro e W10 ⟨u10,rfl,TR,jlm⟩;have hd10:=jgd.trans (jlm.mono he3.size);have z1:=(hd10.cell (p:=⟨w.heap.size,0,none⟩) hlt3).trans y0;have z2:=(hd10.cell (p:=⟨w.heap.size,1,none⟩) hlt3).trans y1;have z3:=(hd10.cell (p:=⟨w.heap.size,2,none⟩) hlt3).trans y2;have z4:=(hd10.cell (p:=⟨w.heap.size,3,none⟩) hlt3).trans y3))
    ·go_wp2_with fail;go_ret2
     exact ⟨_,by rw [hfin.out];rfl,by rw [hfin.out];exact TR.from_ Kw.size,Kw.trans (hd10.mono Kw.size)⟩
    ·go_wp2_with fail;go_ret2
     exact ⟨_,by rw [hfin.out];rfl,by rw [hfin.out];exact TR.from_ (bJ Kw.size he3.size),Kw.trans (hd10.mono Kw.size)⟩
   ·have hlt:=(oV.1 hf).1;obtain ⟨joX,EX,b0,b1,b2,b3⟩:=(hA.up Kw Kw.size).hold hlt;have hn1:=jdn hok'.out hlt;have hn2:=(gG.1 jip.out).2;have hw1:IntKind.i64.wrap ((hold l (pos l h)).n+h.n)=(hold l (pos l h)).n+h.n:=by rw [qU];omega
    by_cases hbig:200<(hold l (pos l h)).n+h.n
    ·have hfin:=Lib.hid (jhm hok'.out jip.out hf hbig);clear hf;generalize pos l h=k at hlt hfin hw1 hbig hn1 b0 b1 b2 b3 ⊢
     have hki:(k:Int)<(l.length:Int):=by omega
     clear hn1 hn2;go_wp2_with fail;go_quiet (fail)
     clear hw1;go_wp2_with fail;go_ret2
     exact ⟨_,by rw [hfin.out];rfl,by rw [hfin.out];exact Own.nil,below_drewN Kw _⟩
    ·have hle:(hold l (pos l h)).n+h.n≤200:=by omega
     have hfin:=Lib.hid (jhl hok'.out jip.out hf hle);clear hf hbig;generalize pos l h=k at hlt hfin hw1 hle hn1 b0 b1 b2 b3 ⊢
     have hki:(k:Int)<(l.length:Int):=by omega
     go_wp2_with fail;go_quiet (fail)
     have hbq:Below W3.heap.size W3 (W3.drewN nq):=below_drewN (aj _ _) nq;go_wp2_with fail;refine (EO _ _ l ((hV.grow Kw).grow hbq) (by omega)).mono ?_
     rintro e W9 ⟨u9,rfl,hu9,Ci⟩;obtain ⟨g,c9,rfl,hgb,hgl⟩:=hu9.some_ (by omega)
     have hd9:=hbq.trans (Ci.mono hbq.size);have x3:=(hd9.cell (p:=⟨w.heap.size,3,none⟩) hlt3).trans y3;have hc9:W9.cell? ⟨g,k*4+3,none⟩=some (.int .i64 (hold l k).n):=by
      rw [World.ownsRow.cellAt hu9 (k*4+3) (by omega),flat_get bM 4 (fun _=>rfl) l k 3 (hold l k) (by rw [bV hlt];simp) (by omega)]
      rfl
     have hf9:W9.frozen? ⟨g,k*4+3,none⟩=false:=World.ownsRow.frozenAt hu9 _;obtain ⟨zD,dh⟩:=Own.store (y:={hold l k with n:=(hold l k).n+h.n}) (u:=.int .i64 ((hold l k).n+h.n)) hu9 (fun _=>rfl) hlt (show 3<4 by omega) (by rw [← bV hlt];rfl)
     have hgne:g≠w.heap.size:=by have:=hlt3;have:=hgb;simp at this;omega
     have FH:=Lib.hid zD;have H6:=Lib.hid dh;clear zD dh;go_wp2_with fail;go_region
     go_wp2_with fail;go_ret2
     exact ⟨_,by rw [hfin.out];rfl,by rw [hfin.out];exact (FH.out.from_ (bJ Kw.size hbq.size)).drew,Kw.trans ((hd9.grown H6.out hd9.size (fun q hq=>by cases hq;exact hgb)).drew.mono Kw.size)⟩
end Wh
namespace Wh
open Go Go.RowKit Go.Shelf Go.Proofs Tryz
attribute [local go_sem] au
attribute [local go_sem] Oper.semAt_some
def KpB (n₀ Bf:Nat) (W W':World):Prop:=Below n₀ W W'∧W'.cell? ⟨Bf,0,none⟩=W.cell? ⟨Bf,0,none⟩
theorem jhh (F:Fence) (n:Nat) (h7:F.fn 156) (hro:F.round=none) (hn:1≤n) (l Bp Bf n₀:Nat) (p:Plan) (f:Bool) (Ab As:Option Addr) (cb cs:Nat) (hlb:p.aH.length≤6) (J Jx:List Nat→World→Prop)
  (hY:∀ (pre:List Nat) (x:Nat) W,J pre W→pre.length<p.aH.length→YieldAt F (n - 1) prog l #[.int .i64 ((x:Nat):Int)] W fun e W'=>
   (e=.returned (.bool true)∧J (pre++[x]) W'∧KpB n₀ Bf W W')∨(e=.returned (.bool false)∧Jx (pre++[x]) W'))
  (W:World) (hn0:n₀≤W.heap.size) (hJ:AbidesFrom W.heap.size J) (Zu:Bf<W.heap.size) (hp0:W.cell? ⟨Bp,0,none⟩=some (.slice Ab p.aH.length cb)) (_:W.cell? ⟨Bp,1,none⟩=some (.slice As p.sizes.length cs))
  (hf:W.cell? ⟨Bf,0,none⟩=some (.bool f)) (hA:At W n₀ Ab (p.aH.flatMap Jv)) (h0:J [] W):
  CallsIn F n prog 156 #[.func (.yield l) #[] #[],.pointer (some ⟨Bp,0,none⟩),.pointer (some ⟨Bf,0,none⟩)] W fun e W'=>(∃ v,e=.returned v)∧
   ((∃ ys,ys=kinds p f∧J ys W')∨(∃ pre,(∃ k,k≤p.aH.length∧pre=kZ p f k)∧Jx pre W')):=by
 refine AU func156 rfl h7 ?_ hro
 simp only [ntmps156,qN,gQ,je,Nat.reduceAdd,Nat.reduceSub,rW,rV,rM,rQ,lq,qg];gi_wp2
 gi_loopw [9] (fun i wr=>∃ k:Nat,k≤p.aH.length∧i=.int .i64 k∧J (kZ p f k) wr∧KpB n₀ Bf W wr)
  (fun i _=>p.aH.length - (intOf i).toNat)
 case atStart=>exact ⟨0,aT _,rfl,h0,aj _ _,rfl⟩
 case round=>
  obtain ⟨k,hk,rfl,hJs,hnx,hnf⟩:=hrel;by_cases hlt:k<p.aH.length
  ·obtain ⟨hok,EX,b0,b1,b2,b3⟩:=(hA.up hnx (aA _)).bin hlt;have g0:=hnf.trans hf;have hBw:Bf<wr.heap.size:=by have:=hnx.size;omega
   have hJa:=hJ _ _ _ none hJs (D9 wr (.cells #[.bool (fK p.aH k).front,.int .i64 (fK p.aH k).room,.int .i64 (fK p.aH k).low,.int .i64 (fK p.aH k).high] 125) none) (fun r h=>by cases h)
   have hBa:Below n₀ wr (wr.alloc (.cells #[.bool (fK p.aH k).front,.int .i64 (fK p.aH k).room,.int .i64 (fK p.aH k).low,.int .i64 (fK p.aH k).high] 125)):=(aj _ _).alloc (by have:=hnx.size;omega) _
   have hca:(wr.alloc (.cells #[.bool (fK p.aH k).front,.int .i64 (fK p.aH k).room,.int .i64 (fK p.aH k).low,.int .i64 (fK p.aH k).high] 125)).cell? ⟨Bf,0,none⟩=wr.cell? ⟨Bf,0,none⟩:=
    ((aj wr.heap.size wr).alloc (aA _) _).cell (p:=⟨Bf,0,none⟩) hBw
   cases hfr:((fK p.aH k).front==f)
   ·have hno:=x9 (p:=p) (f:=f) (k:=k) (by simpa using hfr)
    gi_wp2
    refine ⟨fun _ h=>(by cases h),?_⟩
    gi_wp2
    go_roundw
    case rel=>exact ⟨k+1,by omega,by simp,by rw [hno];exact hJa,hnx.trans hBa,hca.trans hnf⟩
    case measure=>simp [intOf];omega
   ·have hyes:=wu (p:=p) (f:=f) (k:=k) (by simpa using hfr)
    obtain ⟨fn,tmps,assign,body,hy,hR⟩:=hY _ k _ hJa (by have:=sH p f k;omega)
    gi_wp2
    refine hR.mono ?_
    rintro e W3 (⟨rfl,hJ3,hk3⟩|⟨rfl,hJx3⟩)
    ·gi_wp2
     go_roundw
     case rel=>exact ⟨k+1,by omega,by simp,by rw [hyes];exact hJ3,(hnx.trans hBa).trans hk3.1,(hk3.2.trans hca).trans hnf⟩
     case measure=>simp [intOf];omega
    ·gi_wp2
     refine jS (Gl rfl _ _ _) rfl ?_
     exact ⟨⟨_,rfl⟩,.inr ⟨_,⟨k+1,by omega,hyes.symm⟩,hJx3⟩⟩
  ·obtain rfl:k=p.aH.length:=by omega
   gi_wp2
   go_end0
   exact ⟨⟨_,rfl⟩,.inl ⟨_,rfl,hJs⟩⟩
theorem Pg (F:Fence) (n:Nat) (h:F.fn 103) (hro:F.round=none) (v0 v1:Value) (f:Bool) (w:World):
  CallsIn F n prog 103 #[.agg #[v0,v1],.bool f] w fun e w'=>e=.returned (.func (.func 156) #[] #[.pointer (some ⟨w.heap.size,0,none⟩),.pointer (some ⟨w.heap.size+1,0,none⟩)])∧
   w'=(w.alloc (.cells #[v0,v1] 25)).alloc (.cells #[.bool f] 4):=by
 refine AU func103 rfl h ?_ hro
 simp only [ntmps103,qN,gQ,je,Nat.reduceAdd,Nat.reduceSub,rW,rV,rM,rQ,lq,qg];gi_wp2
 go_ret
 exact ⟨rfl,rfl⟩
theorem jcb (F:Fence) (n:Nat) (h7:F.fn 156) (hro:F.round=none) (hn:1≤n) (Bp Bf n₀:Nat) (p:Plan) (f:Bool) (Ab As:Option Addr) (cb cs:Nat) (hlb:p.aH.length≤6) (w:World) (hn0:n₀≤w.heap.size) (hBp:Bp<w.heap.size) (Zu:Bf<w.heap.size)
  (hp0:w.cell? ⟨Bp,0,none⟩=some (.slice Ab p.aH.length cb)) (hp1:w.cell? ⟨Bp,1,none⟩=some (.slice As p.sizes.length cs)) (hf:w.cell? ⟨Bf,0,none⟩=some (.bool f)) (hA:At w n₀ Ab (p.aH.flatMap Jv)):
  SeqStopsK F n prog 156 #[.pointer (some ⟨Bp,0,none⟩),.pointer (some ⟨Bf,0,none⟩)] (fun x:Nat=>#[Value.int .i64 ((x:Nat):Int)]) (KpB n₀ Bf) (fun ys=>ys=kinds p f) (fun pre=>∃ k,k≤p.aH.length∧pre=kZ p f k) p.aH.length w:=fun l J Jx W hW hJ _ hY h0=>
 jhh F n h7 hro hn l Bp Bf n₀ p f Ab As cb cs hlb J Jx hY W (bJ hn0 hW.size) hJ (aZ Zu hW.size) ((hW.cell (p:=⟨Bp,0,none⟩) hBp).trans hp0) ((hW.cell (p:=⟨Bp,1,none⟩) hBp).trans hp1)
  ((hW.cell (p:=⟨Bf,0,none⟩) Zu).trans hf) (hA.up (hW.mono hn0) (aA _)) h0
end Wh
