/- Texts of the claim, joined. -/
import Derived.Test.YtfhfkijmebhgmaaGreatK14
set_option maxHeartbeats 20000000
set_option maxRecDepth 100000
namespace Wh
open Go Go.RowKit Go.Shelf Go.Proofs Tryz
attribute [local go_sem] aT
theorem jbJ{α:Type}(enc:α->List Value)(l:List α)(k:Nat)(x:α):(l.take k++x::l.drop k).flatMap enc=(l.take k).flatMap enc++enc x++(l.drop k).flatMap enc:=by
 simp
theorem Gm{α:Type}(l:List α)(k:Nat)(x:α)(h:k<=l.length):(l.take k++x::l.drop k).length=l.length+1:=by
 simp;omega
def Pv(aO:Nat)(w:World)(l:List dZ)(e:Ending)(w':World):Prop:=∃v',e=.returned v'/\Own ig 4 46 w' aO v' l/\Below aO w w'
theorem jm6(w:World)(aO:Nat)(v:Value)(l:List dZ)(x:dZ)(vb:Nat)(lC:Own ig 4 46 w aO v l)(hn:l.length<=100000)(rV:aO<=w.heap.size)(hx:iV w vb 46 (ig x)):
  Calls prog 165 #[v,.int .i64 l.length,.slice (some ⟨vb,0,none⟩) 1 1] w (Pv aO w (l++[x])):=by
 have hcx:∀j u,(ig x)[j]?=some u->w.cell? ((⟨vb,0,none⟩:Addr).add j)=some u:=λj u hj=>by rw[gU,eY];exact hx.cell hj
 obtain⟨A,c,rfl⟩:=lC.isSlice;by_cases h0:l.length=0
 ·obtain rfl:l=[]:=mP h0;have hA:A=none\/∃g cap,A=some ⟨g,0,none⟩/\c=cap:=by
   rcases lC.2 with⟨h1,_⟩|⟨g,cap,cur,h1,_⟩
   ·left;simp at h1;exact h1.1
   ·right;simp at h1;exact⟨g,cap,h1.1,h1.2⟩
  have hcap:c<=9223372036854775807:=by
   rcases lC.2 with⟨h1,_⟩|⟨g,cap,cur,h1,_,_,_,h5,_⟩
   ·simp at h1;omega
   ·simp at h1;unfold maxLen at h5;omega
  rcases hA with rfl|⟨g,cap,rfl,rfl⟩
  all_goals
   go_enter func165,ntmps165
   go_wp2_with (at_builtin;refine aW ?_)
   all_goals
    unfold Hid;refine lS _ rfl (.tmp 23) (.tmp 24) 28 46 rfl aO _ 4 32 underlying28 yc rfl (by decide) (by decide) _ [] x rfl lC ⟨vb,0,none⟩ 1 rfl rfl hcx (zu x) (by simp) rV ?_
    intro v1 w1 yj hg1 jb7 FC;go_wp2_with fail;go_ret
    exact⟨_,rfl,yj,FC⟩
 ·obtain⟨g,cap,cur,hv,hbg,hg,hlc,hcm,hcs,htake⟩:=lC.row (by omega)
  injection hv with h1 h2 h3
  subst h1 h3;have hcm':c<=9223372036854775807:=by unfold maxLen at hcm;omega
  have hg':=ah hg;clear hcm hcs htake hg;have hce:c=l.length\/l.length<c:=by omega
  rcases hce with rfl|hce
  all_goals
   go_enter func165,ntmps165
   go_wp2_with (at_builtin;refine aW ?_)
   unfold Hid;refine lS _ rfl (.tmp 23) (.tmp 24) 28 46 rfl aO _ 4 32 underlying28 yc rfl (by decide) (by decide) _ l x rfl lC ⟨vb,0,none⟩ 1 rfl rfl hcx (zu x) (by omega) rV ?_
   intro v1 w1 yj hg1 jb7 FC;go_wp2_with fail;go_ret
   exact⟨_,rfl,yj,FC⟩
theorem jkH(w:World)(aO:Nat)(l:List dZ)(x:dZ)(k g vb:Nat)(cur:List Value)(hk:k<l.length)(hn:l.length<=100000)(rV:aO<=w.heap.size)
  (hg:iV w g 46 cur) (htake:cur=l.flatMap ig) (hx:iV w vb 46 (ig x)):
  Calls prog 165 #[.slice (some ⟨g,0,none⟩) l.length l.length,.int .i64 k,.slice (some ⟨vb,0,none⟩) 1 1] w (Pv aO w (l.take k++x::l.drop k)):=by
 have hk4:∀x,(ig x).length=4:=λ_=>rfl
 obtain⟨i0,hi0,hz0,lg,jiQ⟩:=yc;have hcx:∀j u,(ig x)[j]?=some u->w.cell? ((⟨vb,0,none⟩:Addr).add j)=some u:=λj u hj=>by rw[gU,eY];exact hx.cell hj
 obtain⟨G,hG⟩:∃G,G=grownCap w (l.length+1) l.length 46:=⟨_,rfl⟩;have hGn:l.length+1<=G:=by rw[hG];exact grownCap_ge w _ _ _
 have hGm:G<=maxLen:=by rw[hG];exact grownCap_le_maxLen w _ _ _ (by unfold maxLen;omega)
 have hG63:G<=9223372036854775807:=by unfold maxLen at hGm;omega
 have hzl:∀n,(Builtin.zeroCells #[.int .i64 0,.int .i64 0,.int .i64 0,.int .i64 0] n).toList.length=n*4:=λn=>by rw[nG];exact xK _ n
 obtain⟨R,hR⟩:∃R:List Value,R=(l.take k).flatMap ig++(Builtin.zeroCells #[.int .i64 0,.int .i64 0,.int .i64 0,.int .i64 0] (l.length+1 - k)).toList++(Builtin.zeroCells #[.int .i64 0,.int .i64 0,.int .i64 0,.int .i64 0] (G - (l.length+1))).toList:=⟨_,rfl⟩;have hRl:R.length=G*4:=by
  rw[hR,aZ,aZ,kL ig 4 hk4,bT,hzl,hzl];omega
 have hold:(Builtin.firstCells i0.size k (.slice (some ⟨g,0,none⟩) k l.length)).run prog w.drew=.ok ((l.take k).flatMap ig).toArray w.drew:=by
  rw[lg];exact qP w.drew 4 k ⟨g,0,none⟩ k l.length ((l.take k).flatMap ig) (by rw[kL ig 4 hk4,bT];omega) (λj v hj=>by
   rw[gU,eY];refine hg.drew.cell ?_
   rw[<- Gv ig 4 hk4,gJ]at hj
   split at hj
   ·rw[htake];exact hj
   ·cases hj)
 have hrz:∀ty,(Builtin.append_ #[28,3] ty #[.slice (some ⟨g,0,none⟩) k l.length,.int .i64 ((l.length:Int)+1 - (k:Int))]).run prog w=
   .ok (.slice (some ⟨w.heap.size,0,none⟩) (l.length+1) G) (w.drew.alloc (.cells R.toArray 46)):=λty=>by
  have h:=Lib.run_append_grow_zeros w 28 3 ty 46 i0 _ .i64 .i64 underlying28 underlying3 hi0 hz0 (some ⟨g,0,none⟩) k l.length ((l.take k).flatMap ig) hold (l.length+1 - k) (by omega) (by omega) (by omega) (by omega) (by rw[jiQ];omega)
   (by rw[jiQ,show k+(l.length+1 - k)=l.length+1 by omega];exact growslice_fits (by omega) (by omega))
  rw[show k+(l.length+1 - k)=l.length+1 by omega,<- hG,show((l.length+1 - k:Nat):Int)=(l.length:Int)+1 - (k:Int)by omega]at h
  rw[h,hR];congr 3
  apply Array.ext';simp[Value.cells]
 obtain⟨W1,hW1⟩:∃W1,W1=w.drew.alloc (.cells R.toArray 46):=⟨_,rfl⟩;rw[<- hW1]at hrz
 have hN:iV W1 w.heap.size 46 R:=by rw[hW1];exact iV.new w.drew _ R.toArray
 have hgW:iV W1 g 46 cur:=by
  rw[hW1];exact hg.drew.alloc _
 have hxW:iV W1 vb 46 (ig x):=by
  rw[hW1];exact hx.drew.alloc _
 have hs4:(prog.info? 46).map (·.size)=some 4:=by rw[hi0];simp[lg]
 have hR1:(spl R (k*4) (ig x)).length=R.length:=zG (by rw[hk4,hRl];omega)
 have hcp1:∀ty,(Builtin.copy_ #[28,28] ty #[.slice (some ⟨w.heap.size,k*4,none⟩) (l.length+1 - k) (G - k),.slice (some ⟨vb,0,none⟩) 1 1]).run prog W1=.ok (goInt 1) (W1.setRow w.heap.size (spl R (k*4) (ig x)).toArray):=λty=>
  Il (P:=prog) W1 _ _ ty 46 4 w.heap.size (k*4) _ _ ⟨vb,0,none⟩ 1 1 R 46 (ig x) underlying28 hs4 hN 1 (by simp only[Az];split<;>omega) (hk4 x) (λj u hj=>by rw[gU,eY];exact hxW.cell hj) (by rw[hk4,hRl];omega) (zu x)
 obtain⟨W2,hW2⟩:∃W2,W2=W1.setRow w.heap.size (spl R (k*4) (ig x)).toArray:=⟨_,rfl⟩;rw[<- hW2]at hcp1
 have hN2:iV W2 w.heap.size 46 (spl R (k*4) (ig x)):=by rw[hW2];exact hN.row _
 have jrf:iV W2 g 46 cur:=by rw[hW2];exact hgW.other (by have:=hg.lt;omega) _
 have hds:(l.drop k).flatMap ig=cur.drop (k*4):=by rw[htake,IL ig 4 hk4]
 have hdl:((l.drop k).flatMap ig).length=(l.length - k)*4:=by rw[kL ig 4 hk4,fQ]
 have hcp2:∀(W:World),W.heap=W2.heap->∀ty,(Builtin.copy_ #[28,28] ty #[.slice (some ⟨w.heap.size,(k+1)*4,none⟩) (l.length+1 - (k+1)) (G - (k+1)),.slice (some ⟨g,k*4,none⟩) (l.length - k) (l.length - k)]).run prog W=
   .ok (goInt (l.length - k:Nat)) (W.setRow w.heap.size (spl (spl R (k*4) (ig x)) ((k+1)*4) ((l.drop k).flatMap ig)).toArray):=λW hW ty=>
  Il (P:=prog) W _ _ ty 46 4 w.heap.size ((k+1)*4) _ _ ⟨g,k*4,none⟩ _ _ (spl R (k*4) (ig x)) 46 ((l.drop k).flatMap ig) underlying28 hs4 (by unfold iV;rw[hW];exact hN2) (l.length - k) (by simp only[Az];split<;>omega) hdl
   (λj u hj=>by
    rw[gU];have jtQ:iV W g 46 cur:=by unfold iV;rw[hW];exact jrf
    refine jtQ.cell ?_
    rw[hds,mO]at hj
    exact hj)
   (by rw[hdl,hR1,hRl];omega) (λu hu=>by
    obtain⟨y,_,hy⟩:=oL.1 hu;exact zu y u hy)
 have bK:∀(W:World),W.heap=W2.heap->W.os=W2.os->W.tape=W2.tape->W.output=W2.output->Pv aO w (l.take k++x::l.drop k) (.returned (.slice (some ⟨w.heap.size,0,none⟩) (l.length+1) G)) (W.setRow w.heap.size (spl (spl R (k*4) (ig x)) ((k+1)*4) ((l.drop k).flatMap ig)).toArray):=by
  intro W hW e1 e2 e3;have hNW:iV W w.heap.size 46 (spl R (k*4) (ig x)):=by unfold iV;rw[hW];exact hN2
  refine⟨_,rfl,?_,?_⟩
  ·rw[show l.length+1=(l.take k++x::l.drop k).length from(Gm l k x (by omega)).symm]
   refine Own.NH hk4 rV (hNW.row _) (by rw[Gm l k x (by omega)];omega) hGm (by rw[zG (by rw[hdl,hR1,hRl];omega),hR1,hRl]) ?_
   rw[Gm l k x (by omega),jbJ,show(l.length+1)*4=(k+1)*4+((l.drop k).flatMap ig).length by rw[hdl];omega,Zr (by rw[hR1,hRl];omega)]
   rw[show(k+1)*4=k*4+(ig x).length by rw[hk4];omega,Zr (by rw[hRl];omega),hR,eH,eH,oG (by rw[kL ig 4 hk4,bT];omega),kN (by rw[kL ig 4 hk4,bT];omega),eH]
  ·have b1:Below aO w W2:=by
    rw[hW2,hW1];exact DL ((((aj aO w).drew).alloc rV _)) rV _
   have b2:Below aO w W:=⟨e1.trans b1.os,e2.trans b1.tape,e3.trans b1.output,by rw[hW];exact b1.size,λq hq=>by rw[hW];exact b1.block q hq⟩
   exact DL b2 rV _
 have Hg:=ah bK;have jri:∀(W:World),W=W1->∀ty,(Builtin.copy_ #[28,28] ty #[.slice (some ⟨w.heap.size,k*4,none⟩) (l.length+1 - k) (G - k),.slice (some ⟨vb,0,none⟩) 1 1]).run prog W=.ok (goInt 1) W2:=λW hW ty=>by rw[hW];exact hcp1 ty
 have hW1':w.drew.alloc (.cells R.toArray 46)=W1:=hW1.symm;have hw1:IntKind.i64.wrap ((k:Int)+1)=(k:Int)+1:=by rw[jY];omega
 have hb1:(0:Int)<=(k:Int)+1:=by omega
 have hb2:(k:Int)+1<=(l.length:Int)+1:=by omega
 have hb3:(k:Int)<=(l.length:Int):=by omega
 have htn:((k:Int)+1).toNat=k+1:=by omega
 have hGk:¬(G=k):=by omega
 have juj:¬(G=k+1):=by omega
 have hlk:¬(l.length=k):=by omega
 have hkl:¬((k:Int)=(l.length:Int)):=by omega
 clear bK hcp1 hW1 hW2 hN hgW hxW hN2 jrf hds hdl hR1 hRl hR hold hG hGm hi0 htake hcx hg hx hs4;go_enter func165,ntmps165
 go_wp2_with (first
  |(at_builtin;refine Lib.wpList_append_run _ rfl _ _ _ _ rfl _ _ rfl rfl _ _ (hrz _) ?_)
  |(refine Ns _ rfl _ _ 28 28 rfl _ _ rfl rfl (jri _ rfl _) ?_))
 go_region_law (refine QY _ rfl (.tmp 50) (.tmp 53) 28 28 rfl (.slice (some ⟨w.heap.size,(k+1)*4,none⟩) (l.length+1 - (k+1)) (G - (k+1))) (.slice (some ⟨g,k*4,none⟩) (l.length - k) (l.length - k)) (by simp[Act.eval,Act.put]) (by simp[Act.eval,Act.put]) (hcp2 W2.drew rfl _) ?_)
 go_wp2_with fail;go_ret
 exact Hg.O W2.drew rfl rfl rfl rfl
theorem jgY{L:List Value}{o:Nat}{cs:List Value}(h:o<=L.length):(spl L o cs).drop o=cs++L.drop (o+cs.length):=by
 unfold spl;rw[eH,List.drop_append_of_le_length (by rw[bT];omega),Ae (by rw[bT];omega),iy]
theorem jhX(w:World)(aO:Nat)(l:List dZ)(x:dZ)(k g vb cap:Nat)(cur:List Value)(hk:k<l.length)(hn:l.length<=100000)(hbg:aO<=g)(hroom:l.length+1<=cap)(hcm:cap<=maxLen)(hvb:vb≠g)
  (hg:iV w g 46 cur) (hcs:cur.length=cap*4) (htake:cur.take (l.length*4)=l.flatMap ig) (hx:iV w vb 46 (ig x)):
  Calls prog 165 #[.slice (some ⟨g,0,none⟩) l.length cap,.int .i64 k,.slice (some ⟨vb,0,none⟩) 1 1] w (Pv aO w (l.take k++x::l.drop k)):=by
 have hk4:∀x,(ig x).length=4:=λ_=>rfl
 obtain⟨i0,hi0,hz0,lg,jiQ⟩:=yc;have hs4:(prog.info? 46).map (·.size)=some 4:=by rw[hi0];simp[lg]
 have hcap63:cap<=9223372036854775807:=by unfold maxLen at hcm;omega
 obtain⟨D,hD⟩:∃D,D=(l.drop k).flatMap ig:=⟨_,rfl⟩;have hDl:D.length=(l.length - k)*4:=by rw[hD,kL ig 4 hk4,fQ]
 have hD1:∀u∈D,u.oneCell'=true:=λu hu=>by
  rw[hD]at hu
  obtain⟨y,_,hy⟩:=oL.1 hu;exact zu y u hy
 have hov:∀lb cb,(callFunc 181 #[.slice (some ⟨vb,0,none⟩) 1 1,.slice (some ⟨g,(k+1)*4,none⟩) lb cb]).run prog w=.ok (.value (.bool false)) w:=λlb cb=>by
  rw[run_callFunc_extern (fn:=f181) (by kernel_rfl) (by kernel_rfl) (by kernel_rfl) (by kernel_rfl) (e:=Extern.SlicesOverlaps.overlaps #[28,28] #[4]) (by kernel_rfl),Lib.run_overlaps_apart w 28 4 46 underlying28 4 sizeOf46 ⟨vb,0,none⟩ ⟨g,(k+1)*4,none⟩ 1 1 lb cb hvb _ _ _ _ hx.shape hg.shape (by rw[hcs];omega) (hx.frozen _) (hx.frozen _)]
  rfl
 have hsrc:∀j v,D[j]?=some v->w.drew.cell? ((⟨g,k*4,none⟩:Addr).add j)=some v:=λj v hj=>by
  rw[gU];refine hg.drew.cell ?_
  rw[hD,<- IL ig 4 hk4,<- htake,mO,gJ]at hj
  split at hj
  ·exact hj
  ·cases hj
 have hcp1:∀ty,(Builtin.copy_ #[28,28] ty #[.slice (some ⟨g,(k+1)*4,none⟩) (l.length+1 - (k+1)) (cap - (k+1)),.slice (some ⟨g,k*4,none⟩) (l.length+1 - k) (cap - k)]).run prog w.drew=
   .ok (goInt (l.length - k:Nat)) (w.drew.setRow g (spl cur ((k+1)*4) D).toArray):=λty=>
  Il (P:=prog) w.drew _ _ ty 46 4 g ((k+1)*4) _ _ ⟨g,k*4,none⟩ _ _ cur 46 D underlying28 hs4 hg.drew (l.length - k) (by simp only[Az];split<;>omega) hDl hsrc (by rw[hDl,hcs];omega) hD1
 obtain⟨W1,hW1⟩:∃W1,W1=w.drew.setRow g (spl cur ((k+1)*4) D).toArray:=⟨_,rfl⟩;rw[<- hW1]at hcp1
 have hM:(spl cur ((k+1)*4) D).length=cap*4:=by rw[zG (by rw[hDl,hcs];omega),hcs]
 have hg1:iV W1 g 46 (spl cur ((k+1)*4) D):=by rw[hW1];exact hg.drew.row _
 have hx1:iV W1 vb 46 (ig x):=by rw[hW1];exact hx.drew.other hvb _
 have hcp2:∀ty,(Builtin.copy_ #[28,28] ty #[.slice (some ⟨g,k*4,none⟩) (l.length+1 - k) (cap - k),.slice (some ⟨vb,0,none⟩) 1 1]).run prog W1=.ok (goInt 1) (W1.setRow g (spl (spl cur ((k+1)*4) D) (k*4) (ig x)).toArray):=λty=>
  Il (P:=prog) W1 _ _ ty 46 4 g (k*4) _ _ ⟨vb,0,none⟩ 1 1 _ 46 (ig x) underlying28 hs4 hg1 1 (by simp only[Az];split<;>omega) (hk4 x) (λj u hj=>by rw[gU,eY];exact hx1.cell hj) (by rw[hk4,hM];omega) (zu x)
 have bK:Pv aO w (l.take k++x::l.drop k) (.returned (.slice (some ⟨g,0,none⟩) (l.length+1) cap)) (W1.setRow g (spl (spl cur ((k+1)*4) D) (k*4) (ig x)).toArray):=by
  refine⟨_,rfl,?_,?_⟩
  ·rw[show l.length+1=(l.take k++x::l.drop k).length from(Gm l k x (by omega)).symm]
   refine Own.NH hk4 hbg (hg1.row _) (by rw[Gm l k x (by omega)];omega) hcm (by rw[zG (by rw[hk4,hM];omega),hM]) ?_
   rw[Gm l k x (by omega),jbJ]
   have e1:spl (spl cur ((k+1)*4) D) (k*4) (ig x)=(cur.take (k*4)++ig x)++(D++cur.drop ((k+1)*4+D.length)):=by
    have a1:spl (spl cur ((k+1)*4) D) (k*4) (ig x)=(spl cur ((k+1)*4) D).take (k*4)++ig x++(spl cur ((k+1)*4) D).drop (k*4+(ig x).length):=rfl;have a2:(spl cur ((k+1)*4) D).take (k*4)=cur.take (k*4):=by
     have:(spl cur ((k+1)*4) D).take (k*4)=((spl cur ((k+1)*4) D).take ((k+1)*4)).take (k*4):=by rw[oC,jS (by omega)]
     rw[this,Zq (by rw[hcs];omega),oC,jS (by omega)]
    rw[a1,a2,hk4,show k*4+4=(k+1)*4 by omega,jgY (by rw[hcs];omega)]
   have e2:cur.take (k*4)=(l.take k).flatMap ig:=by
    have:cur.take (k*4)=(cur.take (l.length*4)).take (k*4):=by rw[oC,jS (by omega)]
    rw[this,htake,Gv ig 4 hk4]
   rw[e1,e2,<- eH,oG (by simp only[aZ,hDl,kL ig 4 hk4,bT,hk4];omega),kN (by simp only[aZ,hDl,kL ig 4 hk4,bT,hk4];omega),hD]
  ·rw[hW1];exact DL (DL (aj aO w).drew hbg _) hbg _
 have Hg:=ah bK;have hw1:IntKind.i64.wrap ((k:Int)+1)=(k:Int)+1:=by rw[jY];omega
 have hb1:(0:Int)<=(k:Int)+1:=by omega
 have hb2:(k:Int)+1<=(l.length:Int)+1:=by omega
 have hb3:(k:Int)<=(l.length:Int):=by omega
 have hb4:(k:Int)<=(l.length:Int)+1:=by omega
 have htn:((k:Int)+1).toNat=k+1:=by omega
 have hGk:¬(cap=k):=by omega
 have juj:¬(cap=k+1):=by omega
 have hkl:¬((k:Int)=(l.length:Int)):=by omega
 clear bK hW1 hg1 hx1 hD hDl hD1 hsrc hM hi0 htake hcs hg hx hs4 hcm;go_enter func165,ntmps165
 go_wp2_with (simp only[hov]);go_region_law (refine QY _ rfl (.tmp 73) (.tmp 76) 28 28 rfl (.slice (some ⟨g,(k+1)*4,none⟩) (l.length+1 - (k+1)) (cap - (k+1))) (.slice (some ⟨g,k*4,none⟩) (l.length+1 - k) (cap - k)) (by simp[Act.eval,Act.put]) (by simp[Act.eval,Act.put]) (hcp1 _) ?_)
 go_wp2_with (refine Ns _ rfl _ _ 28 28 rfl _ _ rfl rfl (hcp2 _) ?_)
 go_ret
 exact Hg.O
theorem jfb(w:World)(aO:Nat)(v:Value)(l:List dZ)(x:dZ)(k vb:Nat)(lC:Own ig 4 46 w aO v l)(hk:k<=l.length)(hn:l.length<=100000)(rV:aO<=w.heap.size)(hx:iV w vb 46 (ig x))(hvb:v.ownBlock≠some vb):
  Calls prog 165 #[v,.int .i64 k,.slice (some ⟨vb,0,none⟩) 1 1] w (Pv aO w (l.take k++x::l.drop k)):=by
 rcases pF hk with hlt|rfl
 ·obtain⟨g,cap,cur,rfl,hbg,hg,hlc,hcm,hcs,htake⟩:=lC.row (by omega)
  rcases pF hlc with h1|rfl
  ·exact jhX w aO l x k g vb cap cur hlt hn hbg h1 hcm (λe=>hvb (by rw[e];rfl)) hg hcs htake hx
  ·exact jkH w aO l x k g vb cur hlt hn rV hg (by rw[<- htake,kN (by omega)]) hx
 ·have h:=jm6 w aO v l x vb lC hn rV hx;rw[fG,wS];exact h
end Wh
namespace Wh
open Go Go.RowKit Go.Shelf Go.Proofs Tryz
attribute [local go_sem] aT
def jcP(l:List dZ)(o ln b:Int)(w:World)(e:Ending)(w':World):Prop:=
 ∃v,e=.returned (.tuple #[v,.int .i64 (drop l o ln b).2.1,.int .i64 (drop l o ln b).2.2])/\Own ig 4 46 w' w.heap.size v (drop l o ln b).1/\Below w.heap.size w w'
def jlK(l:List dZ)(h:dZ)(w:World)(e:Ending)(w':World):Prop:=
 ∃v,e=.returned (.tuple #[v,.int .i64 (add l h).2])/\Own ig 4 46 w' w.heap.size v (add l h).1/\Below w.heap.size w w'
theorem SG{l:List dZ}(h:iD l=true):l.length<=72:=by
 have hr:=(gG.1 h).2;have hf:=(gG.1 h).1;have hp:∀x∈l,0<=fP x/\fP x<72:=λx hx=>by
  have:=(nI.1 (hf x hx)).1;unfold sD at this
  unfold fP;omega
 have hn:(l.map λx=>(fP x).toNat).Nodup:=by
  rw[List.Nodup,nY];refine qN ?_ hr
  intro a b ha hb hab;have h1:=hp a ha;have h2:=hp b hb;omega
 have hs:(l.map λx=>(fP x).toNat) ⊆ List.range 72:=λn hn'=>by
  obtain⟨x,hx,rfl⟩:=kV.1 hn';have:=hp x hx;exact gZ.2 (by omega)
 have:=hn.length_le_of_subset hs;simpa using this
theorem jjx{l:List dZ}{o ln b:Int}(h:iD l=false):drop l o ln b=([],0,1):=by unfold drop;rw[h];rfl
theorem jgv{l:List dZ}{o ln b:Int}(h:iD l=true)(hf:zN l ⟨o,ln,b,0⟩=false):drop l o ln b=([],0,4):=by
 unfold drop;rw[h,ay (by simp),aB (PO h hf)]
theorem jjw{l:List dZ}{o ln b:Int}(h:iD l=true)(hf:zN l ⟨o,ln,b,0⟩=true):drop l o ln b=(l.eraseIdx (pos l ⟨o,ln,b,0⟩),(hold l (pos l ⟨o,ln,b,0⟩)).n,0):=by
 have hk:=QI h hf;have hn:=jfS h (yV.1 hf).1;simp only at hk
 unfold drop;rw[h,ay (by simp),hk,ay (by omega),Yk h (jgo h hf) rfl hf]
theorem jnO(w:World)(v:Value)(l:List dZ)(o ln b:Int)(hv:Sl ig w w.heap.size v l):
  Calls prog 101 #[v,.int .i64 o,.int .i64 ln,.int .i64 b] w (jcP l o ln b w):=by
 have hV:=hv;obtain⟨A,c,rfl,hl,hA⟩:=hv;go_enter func101,ntmps101
 go_wp2_with fail;refine(UW _ _ _ hV).mono ?_
 rintro e W1 ⟨rfl,hb1⟩;cases hok:iD l
 ·have bK:=ah (jjx (o:=o) (ln:=ln) (b:=b) hok);have hc:lT l=1:=by unfold lT;rw[hok];rfl
  rw[hc];clear hc hok;go_wp2_with fail;go_ret3
  exact⟨_,by rw[bK.O];rfl,by rw[bK.O];exact Own.nil,hb1⟩
 ·have hc:lT l=0:=Xh.2 hok;have kD:=SG hok;rw[hc];clear hc;have hok':=ah hok;clear hok;go_wp2_with fail;refine(jiM _ _ l ⟨o,ln,b,0⟩ (hV.grow hb1) hok'.O (by omega)).mono ?_
  rintro e W2 ⟨rfl,hb2⟩;have KA:=hb1.trans (hb2.mono hb1.size);cases hf:zN l ⟨o,ln,b,0⟩
  ·have bK:=ah (jgv hok'.O hf);clear hf;go_wp2_with fail;go_ret3
   exact⟨_,by rw[bK.O];rfl,by rw[bK.O];exact Own.nil,KA⟩
  ·have bK:=ah (jjw hok'.O hf);have hlt:=(yV.1 hf).1;clear hf;generalize pos l ⟨o,ln,b,0⟩=k at hlt bK ⊢
   obtain⟨jr6,LG,b0,b1,b2,b3⟩:=(hA.up KA KA.size).hold hlt;have hw1:IntKind.i64.wrap ((k:Int)+1)=(k:Int)+1:=by rw[jY];omega
   have hki:(k:Int)<(l.length:Int):=by omega
   have hVd:Sl ig W2.drew W2.drew.heap.size (.slice A l.length c) l:=(hV.grow KA).drew;have hd2:Below W2.heap.size W2 W2.drew:=(aj _ _).drew;clear b0 b1 b2 hok' hb1 hb2 hA;go_wp2_with fail;go_region_held3 (λw'=>w'.cell? ⟨jd A,ou A+k*4+3,none⟩=some (.int .i64 (hold l k).n)) (first|exact z1|go_keep)
    (first
    |(go_at_call 111;refine(Lj _ _ l hVd (by omega)).mono ?_;rintro e W9 ⟨u9,rfl,hu9,Hq⟩;have hd9:=hd2.trans (Hq.mono hd2.size);have z1:=(hd9.cell (p:=⟨_,_,none⟩) LG).trans b3)
    |(go_at_call 155;refine(jls _ _ u9 l k hu9 hlt (by omega)).mono ?_;rintro e W10 ⟨u10,rfl,SL,Cb,hat10⟩;have hd10:=hd9.grown Cb hd9.size (λq hq=>(hu9.size q hq).1);have z1:=(hd10.cell (p:=⟨_,_,none⟩) LG).trans b3))
   go_wp2_with fail;go_ret3
   exact⟨_,by rw[bK.O];rfl,by rw[bK.O];exact SL.from_ KA.size,KA.trans (hd10.mono KA.size)⟩
theorem add_bad{l:List dZ}{h:dZ}(hb:iD l=false\/lH h=false):add l h=([],1):=by
 unfold add;rcases hb with hb|hb
 ·rw[hb];rfl
 ·cases iD l
  ·rfl
  ·rw[hb];rfl
theorem jlH{l:List dZ}{h:dZ}(h1:iD l=true)(h2:lH h=true)(hf:zN l h=false):add l h=(l.take (pos l h)++h::l.drop (pos l h),0):=by
 have hk:=PO h1 hf;obtain⟨k1,k2,k3⟩:=nI.1 h2;unfold add;rw[h1,h2,ay (by simp),ay (by simp),hk,ay (by omega)]
 have e:({h with n:=0+h.n}:dZ)=h:=by cases h;simp
 rw[e,jgQ h1 k1 (by omega) hf]
theorem jjT{l:List dZ}{h:dZ}(h1:iD l=true)(h2:lH h=true)(hf:zN l h=true)(hn:200<(hold l (pos l h)).n+h.n):add l h=([],3):=by
 have hk:=QI h1 hf;unfold add;rw[h1,h2,ay (by simp),ay (by simp),hk,aB hn]
theorem jjS{l:List dZ}{h:dZ}(h1:iD l=true)(h2:lH h=true)(hf:zN l h=true)(hn:(hold l (pos l h)).n+h.n<=200):
  add l h=(l.set (pos l h) {hold l (pos l h)with n:=(hold l (pos l h)).n+h.n},0):=by
 have hk:=QI h1 hf;obtain⟨f1,f2⟩:=yV.1 hf;obtain⟨e1,e2,e3⟩:=G6.1 f2;have hn1:=jfS h1 f1;have hn2:=(nI.1 h2).2;unfold add;rw[h1,h2,ay (by simp),ay (by simp),hk,ay (by omega)]
 rw[Yj h1 (h:={h with n:=(hold l (pos l h)).n+h.n}) (nI.1 h2).1 (by simp only;omega) (by rw[jan];exact hf),jhB]
 simp only[e1,e2,e3]
theorem jrh(w:World)(v:Value)(l:List dZ)(h:dZ)(hv:Sl ig w w.heap.size v l):
  Calls prog 124 #[v,um h] w (jlK l h w):=by
 have hV:=hv;obtain⟨A,c,rfl,hl,hA⟩:=hv;have hb0:Below w.heap.size w (w.alloc (.cells #[.int .i64 (h).aC,.int .i64 (h).aG,.int .i64 (h).bin,.int .i64 (h).n] 46)):=(aj _ _).alloc (au _) _;unfold um;go_enter func124,ntmps124
 go_wp2_with fail;refine(UW _ _ _ (hV.grow hb0)).mono ?_
 rintro e W1 ⟨rfl,hb1⟩;have X3:=hb0.trans (hb1.mono hb0.size);have hsz:=hb1.size;obtain⟨hc1,hf1⟩:=xH hb1;cases hok:iD l
 ·have bK:=ah (add_bad (h:=h) (.inl hok));have hc:lT l=1:=by unfold lT;rw[hok];rfl
  rw[hc];clear hc hok;go_wp2_with fail;go_ret2
  exact⟨_,by rw[bK.O];rfl,by rw[bK.O];exact Own.nil,X3⟩
 ·have hc:lT l=0:=Xh.2 hok;have kD:=SG hok;rw[hc];clear hc;have hok':=ah hok;clear hok;go_wp2_with fail;refine(WB h _).mono ?_
  rintro e W2 ⟨rfl,hb2⟩;have BG:=hb1.trans (hb2.mono hb1.size);have KA:=hb0.trans (BG.mono hb0.size);obtain⟨hc2,hf2⟩:=xH BG;clear hc1 hf1;cases hfi:lH h
  ·have bK:=ah (add_bad (l:=l) (.inr hfi));go_wp2_with fail;go_ret2
   exact⟨_,by rw[bK.O];rfl,by rw[bK.O];exact Own.nil,KA⟩
  ·have jk2:=ah hfi;have hlt2:w.heap.size<W2.heap.size:=by have:=BG.size;simp at this;omega
   go_wp2_with fail;clear hfi;refine(jiM _ _ l h (hV.grow KA) hok'.O (by omega)).mono ?_
   rintro e W3 ⟨rfl,hb3⟩;have Oe:=BG.trans (hb3.mono BG.size);have QE:=hb0.trans (Oe.mono hb0.size);obtain⟨hc3,hf3⟩:=xH Oe;have hlt3:w.heap.size<W3.heap.size:=by have:=hb3.size;omega
   obtain⟨y0,y1,y2,y3⟩:W3.cell? ⟨w.heap.size,0,none⟩=some (.int .i64 h.aC)/\W3.cell? ⟨w.heap.size,1,none⟩=some (.int .i64 h.aG)/\W3.cell? ⟨w.heap.size,2,none⟩=some (.int .i64 h.bin)/\W3.cell? ⟨w.heap.size,3,none⟩=some (.int .i64 h.n):=
    ⟨(hc3 _ _ (by simp)).trans (by simp),(hc3 _ _ (by simp)).trans (by simp),(hc3 _ _ (by simp)).trans (by simp),(hc3 _ _ (by simp)).trans (by simp)⟩
   clear hc2 hf2 hc3 hf3 hb1 hb2 BG hsz;have jij:=(Q8 l h).1;cases hf:zN l h
   ·have bK:=ah (jlH hok'.O jk2.O hf);clear hf;generalize pos l h=k at bK jij ⊢
    have hVd:Sl ig W3.drew W3.drew.heap.size (.slice A l.length c) l:=(hV.grow QE).drew;have hd3:Below W3.heap.size W3 W3.drew:=(aj _ _).drew;have he3:Below W3.heap.size W3 (W3.drew.alloc (.cells #[.int .i64 (h).aC,.int .i64 (h).aG,.int .i64 (h).bin,.int .i64 (h).n] 46)):=hd3.alloc (au _) _;have hVe:=(hV.grow QE).grow he3;have hEb:iV (W3.drew.alloc (.cells #[.int .i64 (h).aC,.int .i64 (h).aG,.int .i64 (h).bin,.int .i64 (h).n] 46)) W3.heap.size 46 (ig h):=iV.new W3.drew 46 #[.int .i64 (h).aC,.int .i64 (h).aG,.int .i64 (h).bin,.int .i64 (h).n];go_wp2_with fail;go_region_held3 (λw'=>w'.cell? ⟨w.heap.size,0,none⟩=some (.int .i64 h.aC)/\w'.cell? ⟨w.heap.size,1,none⟩=some (.int .i64 h.aG)/\w'.cell? ⟨w.heap.size,2,none⟩=some (.int .i64 h.bin)/\w'.cell? ⟨w.heap.size,3,none⟩=some (.int .i64 h.n)) (first|exact⟨z1,z2,z3,z4⟩|go_keep)
     (first
     |(go_at_call 111;refine(Lj _ _ l hVd (by omega)).mono ?_;rintro e W9 ⟨u9,rfl,hu9,Hq⟩;have hd9:=hd3.trans (Hq.mono hd3.size);have z1:=(hd9.cell (p:=⟨w.heap.size,0,none⟩) hlt3).trans y0;have z2:=(hd9.cell (p:=⟨w.heap.size,1,none⟩) hlt3).trans y1;have z3:=(hd9.cell (p:=⟨w.heap.size,2,none⟩) hlt3).trans y2;have z4:=(hd9.cell (p:=⟨w.heap.size,3,none⟩) hlt3).trans y3)
     |(go_at_call 111;refine(Lj _ _ l hVe (by omega)).mono ?_;rintro e W19 ⟨u19,rfl,jqI,jn3⟩;have jiN:=he3.trans (jn3.mono he3.size);have i13:=hEb.below jn3 (by simp);have z1:=(jiN.cell (p:=⟨w.heap.size,0,none⟩) hlt3).trans y0;have z2:=(jiN.cell (p:=⟨w.heap.size,1,none⟩) hlt3).trans y1;have z3:=(jiN.cell (p:=⟨w.heap.size,2,none⟩) hlt3).trans y2;have z4:=(jiN.cell (p:=⟨w.heap.size,3,none⟩) hlt3).trans y3)
     |(go_at_call 165;have i1:=hu9.alloc (.cells #[.int .i64 (h).aC,.int .i64 (h).aG,.int .i64 (h).bin,.int .i64 (h).n] 46);have i2:W3.drew.heap.size<=(W9.alloc (.cells #[.int .i64 (h).aC,.int .i64 (h).aG,.int .i64 (h).bin,.int .i64 (h).n] 46)).heap.size:=(by have:=hd9.size;simp;omega);have i3:iV (W9.alloc (.cells #[.int .i64 (h).aC,.int .i64 (h).aG,.int .i64 (h).bin,.int .i64 (h).n] 46)) W9.heap.size 46 (ig h):=iV.new W9 46 #[.int .i64 (h).aC,.int .i64 (h).aG,.int .i64 (h).bin,.int .i64 (h).n];have i4:u9.ownBlock≠some W9.heap.size:=(λhq=>(Nat.lt_irrefl _ (hu9.size _ hq).2));refine(jfb _ _ u9 l h k W9.heap.size i1 jij (by omega) i2 i3 i4).mono ?_;rintro e W10 ⟨u10,rfl,SL,jn4⟩;have hd10:=(hd9.alloc hd9.size (.cells #[.int .i64 (h).aC,.int .i64 (h).aG,.int .i64 (h).bin,.int .i64 (h).n] 46)).trans jn4;have z1:=(hd10.cell (p:=⟨w.heap.size,0,none⟩) hlt3).trans y0;have z2:=(hd10.cell (p:=⟨w.heap.size,1,none⟩) hlt3).trans y1;have z3:=(hd10.cell (p:=⟨w.heap.size,2,none⟩) hlt3).trans y2;have z4:=(hd10.cell (p:=⟨w.heap.size,3,none⟩) hlt3).trans y3)
     |(go_at_call 165;have i14:u19.ownBlock≠some W3.heap.size:=(λhq=>(by have:=(jqI.size _ hq).1;simp at this;omega));refine(jfb _ _ u19 l h k W3.heap.size jqI jij (by omega) jn3.size i13 i14).mono ?_;rintro e W10 ⟨u10,rfl,SL,jn4⟩;have hd10:=jiN.trans (jn4.mono he3.size);have z1:=(hd10.cell (p:=⟨w.heap.size,0,none⟩) hlt3).trans y0;have z2:=(hd10.cell (p:=⟨w.heap.size,1,none⟩) hlt3).trans y1;have z3:=(hd10.cell (p:=⟨w.heap.size,2,none⟩) hlt3).trans y2;have z4:=(hd10.cell (p:=⟨w.heap.size,3,none⟩) hlt3).trans y3))
    ·go_wp2_with fail;go_ret2
     exact⟨_,by rw[bK.O];rfl,by rw[bK.O];exact SL.from_ QE.size,QE.trans (hd10.mono QE.size)⟩
    ·go_wp2_with fail;go_ret2
     exact⟨_,by rw[bK.O];rfl,by rw[bK.O];exact SL.from_ (aY QE.size he3.size),QE.trans (hd10.mono QE.size)⟩
   ·have hlt:=(yV.1 hf).1;obtain⟨jr6,LG,b0,b1,b2,b3⟩:=(hA.up QE QE.size).hold hlt;have hn1:=jfS hok'.O hlt;have hn2:=(nI.1 jk2.O).2;have hw1:IntKind.i64.wrap ((hold l (pos l h)).n+h.n)=(hold l (pos l h)).n+h.n:=by rw[jY];omega
    by_cases hbig:200<(hold l (pos l h)).n+h.n
    ·have bK:=ah (jjT hok'.O jk2.O hf hbig);clear hf;generalize pos l h=k at hlt bK hw1 hbig hn1 b0 b1 b2 b3 ⊢
     have hki:(k:Int)<(l.length:Int):=by omega
     clear hn1 hn2;go_wp2_with fail;go_quiet (fail)
     clear hw1;go_wp2_with fail;go_ret2
     exact⟨_,by rw[bK.O];rfl,by rw[bK.O];exact Own.nil,below_drewN QE _⟩
    ·have hle:(hold l (pos l h)).n+h.n<=200:=by omega
     have bK:=ah (jjS hok'.O jk2.O hf hle);clear hf hbig;generalize pos l h=k at hlt bK hw1 hle hn1 b0 b1 b2 b3 ⊢
     have hki:(k:Int)<(l.length:Int):=by omega
     go_wp2_with fail;go_quiet (fail)
     have hbq:Below W3.heap.size W3 (W3.drewN nq):=below_drewN (aj _ _) nq;go_wp2_with fail;refine(Lj _ _ l ((hV.grow QE).grow hbq) (by omega)).mono ?_
     rintro e W9 ⟨u9,rfl,hu9,Hq⟩;obtain⟨g,c9,rfl,hgb,hgl⟩:=hu9.some_ (by omega)
     have hd9:=hbq.trans (Hq.mono hbq.size);have x3:=(hd9.cell (p:=⟨w.heap.size,3,none⟩) hlt3).trans y3;have hc9:W9.cell? ⟨g,k*4+3,none⟩=some (.int .i64 (hold l k).n):=by
      rw[World.ownsRow.cellAt hu9 (k*4+3) (by omega),KZ ig 4 (λ_=>rfl) l k 3 (hold l k) (by rw[iL hlt];simp) (by omega)]
      rfl
     have hf9:W9.frozen? ⟨g,k*4+3,none⟩=false:=World.ownsRow.frozenAt hu9 _;obtain⟨E8,je⟩:=Own.store (y:={hold l k with n:=(hold l k).n+h.n}) (u:=.int .i64 ((hold l k).n+h.n)) hu9 (λ_=>rfl) hlt (show 3<4 by omega) (by rw[<- iL hlt];rfl)
     have hgne:g≠w.heap.size:=by have:=hlt3;have:=hgb;simp at this;omega
     have MB:=ah E8;have NZ:=ah je;clear E8 je;go_wp2_with fail;go_region
     go_wp2_with fail;go_ret2
     exact⟨_,by rw[bK.O];rfl,by rw[bK.O];exact(MB.O.from_ (aY QE.size hbq.size)).drew,QE.trans ((hd9.grown NZ.O hd9.size (λq hq=>by cases hq;exact hgb)).drew.mono QE.size)⟩
end Wh
