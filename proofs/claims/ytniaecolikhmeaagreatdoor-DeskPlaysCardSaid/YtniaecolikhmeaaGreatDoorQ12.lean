/- Texts of the claim, joined. -/
import Derived.Test.YtniaecolikhmeaaGreatDoorQ11
set_option maxHeartbeats 20000000
set_option maxRecDepth 100000
set_option linter.all false
namespace Wh
open Go Go.RowKit Go.Shelf Go.Proofs Tryz
section
attribute [local go_sem] aV
theorem jcK{α:Type}(enc:α->List Value)(l:List α)(k:Nat)(x:α):(l.take k++x::l.drop k).flatMap enc=(l.take k).flatMap enc++enc x++(l.drop k).flatMap enc:=by
 simp
theorem HY{α:Type}(l:List α)(k:Nat)(x:α)(h:k<=l.length):(l.take k++x::l.drop k).length=l.length+1:=by
 simp;omega
def Qm(aT:Nat)(w:World)(l:List eX)(e:Ending)(w':World):Prop:=∃v',e=.returned v'/\Own iD 4 116 w' aT v' l/\Below aT w w'
theorem jn5(w:World)(aT:Nat)(v:Value)(l:List eX)(x:eX)(vb:Nat)(mQ:Own iD 4 116 w aT v l)(hn:l.length<=100000)(wu:aT<=w.heap.size)(hx:iJ w vb 116 (iD x)):
  Calls prog 196 #[v,l.length,.slice (some vb) 1 1] w (Qm aT w (l++[x])):=by
 have hcx:∀j u,(iD x)[j]?=some u->w.cell? ((⟨vb,0,none⟩:Addr).add j)=some u:=λj u hj=>by rw[gy,fM];exact hx.cell hj
 obtain⟨A,c,rfl⟩:=mQ.isSlice;by_cases h0:l.length=0
 ·obtain rfl:l=[]:=jT h0;have hA:A=none\/∃g cap,A=some ⟨g,0,none⟩/\c=cap:=by
   rcases mQ.2 with⟨h1,_⟩|⟨g,cap,cur,h1,_⟩
   ·left;simp at h1;exact h1.1
   ·right;simp at h1;exact⟨g,cap,h1.1,h1.2⟩
  have hcap:c<=9223372036854775807:=by
   rcases mQ.2 with⟨h1,_⟩|⟨g,cap,cur,h1,_,_,_,h5,_⟩
   ·simp at h1;omega
   ·simp at h1;unfold maxLen at h5;omega
  rcases hA with rfl|⟨g,cap,rfl,rfl⟩
  all_goals
   go_enter func196,ntmps196
   go_wp2_with (at_builtin;refine bD ?_)
   all_goals
    unfold Hid;refine jV _ rfl (.tmp 23) (.tmp 24) 37 116 rfl aT _ 4 32 underlying37 yJ rfl (by decide) (by decide) _ [] x rfl mQ vb 1 rfl rfl hcx (zQ x) (by simp) wu ?_
    intro v1 w1 yK hg1 jc6 Gt;go_wp2_with fail;go_ret
    exact⟨_,rfl,yK,Gt⟩
 ·obtain⟨g,cap,cur,hv,hbg,hg,hlc,hcm,hcs,htake⟩:=mQ.row (by omega)
  injection hv with h1 h2 h3
  subst h1 h3;have hcm':c<=9223372036854775807:=by unfold maxLen at hcm;omega
  have hg':=ah hg;clear hcm hcs htake hg;have hce:c=l.length\/l.length<c:=by omega
  rcases hce with rfl|hce
  all_goals
   go_enter func196,ntmps196
   go_wp2_with (at_builtin;refine bD ?_)
   unfold Hid;refine jV _ rfl (.tmp 23) (.tmp 24) 37 116 rfl aT _ 4 32 underlying37 yJ rfl (by decide) (by decide) _ l x rfl mQ vb 1 rfl rfl hcx (zQ x) (by omega) wu ?_
   intro v1 w1 yK hg1 jc6 Gt;go_wp2_with fail;go_ret
   exact⟨_,rfl,yK,Gt⟩
theorem jlI(w:World)(aT:Nat)(l:List eX)(x:eX)(k g vb:Nat)(cur:List Value)(hk:k<l.length)(hn:l.length<=100000)(wu:aT<=w.heap.size)
  (hg:iJ w g 116 cur) (htake:cur=l.flatMap iD) (hx:iJ w vb 116 (iD x)):
  Calls prog 196 #[.slice (some g) l.length l.length,k,.slice (some vb) 1 1] w (Qm aT w (l.take k++x::l.drop k)):=by
 have hk4:∀x,(iD x).length=4:=λ_=>rfl
 obtain⟨i0,hi0,hz0,kX,jjP⟩:=yJ;have hcx:∀j u,(iD x)[j]?=some u->w.cell? ((⟨vb,0,none⟩:Addr).add j)=some u:=λj u hj=>by rw[gy,fM];exact hx.cell hj
 obtain⟨G,hG⟩:∃G,G=grownCap w (l.length+1) l.length 116:=⟨_,rfl⟩;have hGn:l.length+1<=G:=by rw[hG];exact grownCap_ge w _ _ _
 have hGm:G<=maxLen:=by rw[hG];exact grownCap_le_maxLen w _ _ _ (by unfold maxLen;omega)
 have hG63:G<=9223372036854775807:=by unfold maxLen at hGm;omega
 have hzl:∀n,(Builtin.zeroCells #[zI,zI,zI,zI] n).toList.length=n*4:=λn=>by rw[oP];exact yx _ n
 obtain⟨R,hR⟩:∃R:List Value,R=(l.take k).flatMap iD++(Builtin.zeroCells #[zI,zI,zI,zI] (l.length+1 - k)).toList++(Builtin.zeroCells #[zI,zI,zI,zI] (G - (l.length+1))).toList:=⟨_,rfl⟩;have hRl:R.length=G*4:=by
  rw[hR,aX,aX,lU iD 4 hk4,bC,hzl,hzl];omega
 have hold:(Builtin.firstCells i0.size k (.slice (some g) k l.length)).run prog w.drew=.ok ((l.take k).flatMap iD).toArray w.drew:=by
  rw[kX];exact qQ w.drew 4 k g k l.length ((l.take k).flatMap iD) (by rw[lU iD 4 hk4,bC];omega) (λj v hj=>by
   rw[gy,fM];refine hg.drew.cell ?_
   rw[<- Ic iD 4 hk4,jG]at hj
   split at hj
   ·rw[htake];exact hj
   ·cases hj)
 have hrz:∀ty,(Builtin.append_ #[37,3] ty #[.slice (some g) k l.length,.int .i64 ((l.length:Int)+1 - (k:Int))]).run prog w=
   .ok (.slice (some w) (l.length+1) G) (w.drew.alloc (.cells R.toArray 116)):=λty=>by
  have h:=Lib.run_append_grow_zeros w 37 3 ty 116 i0 _ .i64 .i64 underlying37 underlying3 hi0 hz0 (some ⟨g,0,none⟩) k l.length ((l.take k).flatMap iD) hold (l.length+1 - k) (by omega) (by omega) (by omega) (by omega) (by rw[jjP];omega)
   (by rw[jjP,show k+(l.length+1 - k)=l.length+1 by omega];exact growslice_fits (by omega) (by omega))
  rw[show k+(l.length+1 - k)=l.length+1 by omega,<- hG,show((l.length+1 - k:Nat):Int)=(l.length:Int)+1 - (k:Int)by omega]at h
  rw[h,hR];congr 3
  apply Array.ext';simp[Value.cells]
 obtain⟨W1,hW1⟩:∃W1,W1=w.drew.alloc (.cells R.toArray 116):=⟨_,rfl⟩;rw[<- hW1]at hrz
 have hN:iJ W1 w 116 R:=by rw[hW1];exact iJ.new w.drew _ R.toArray
 have hgW:iJ W1 g 116 cur:=by
  rw[hW1];exact hg.drew.alloc _
 have hxW:iJ W1 vb 116 (iD x):=by
  rw[hW1];exact hx.drew.alloc _
 have hs4:(prog.info? 116).map (·.size)=some 4:=by rw[hi0];simp[kX]
 have hR1:(spl R (k*4) (iD x)).length=R.length:=Aa (by rw[hk4,hRl];omega)
 have hcp1:∀ty,(Builtin.copy_ #[37,37] ty #[.slice (some ⟨w.heap.size,k*4,none⟩) (l.length+1 - k) (G - k),.slice (some vb) 1 1]).run prog W1=.ok (goInt 1) (W1.setRow w (spl R (k*4) (iD x)).toArray):=λty=>
  Jr (P:=prog) W1 _ _ ty 116 4 w (k*4) _ _ vb 1 1 R 116 (iD x) underlying37 hs4 hN 1 (by simp only[BM];split<;>omega) (hk4 x) (λj u hj=>by rw[gy,fM];exact hxW.cell hj) (by rw[hk4,hRl];omega) (zQ x)
 obtain⟨W2,hW2⟩:∃W2,W2=W1.setRow w (spl R (k*4) (iD x)).toArray:=⟨_,rfl⟩;rw[<- hW2]at hcp1
 have hN2:iJ W2 w 116 (spl R (k*4) (iD x)):=by rw[hW2];exact hN.row _
 have jr3:iJ W2 g 116 cur:=by rw[hW2];exact hgW.other (by have:=hg.lt;omega) _
 have hds:(l.drop k).flatMap iD=cur.drop (k*4):=by rw[htake,JH iD 4 hk4]
 have hdl:((l.drop k).flatMap iD).length=(l.length - k)*4:=by rw[lU iD 4 hk4,jv]
 have hcp2:∀(W:World),W.heap=W2.heap->∀ty,(Builtin.copy_ #[37,37] ty #[.slice (some ⟨w.heap.size,(k+1)*4,none⟩) (l.length+1 - (k+1)) (G - (k+1)),.slice (some ⟨g,k*4,none⟩) (l.length - k) (l.length - k)]).run prog W=
   .ok (goInt (l.length - k:Nat)) (W.setRow w (spl (spl R (k*4) (iD x)) ((k+1)*4) ((l.drop k).flatMap iD)).toArray):=λW hW ty=>
  Jr (P:=prog) W _ _ ty 116 4 w ((k+1)*4) _ _ ⟨g,k*4,none⟩ _ _ (spl R (k*4) (iD x)) 116 ((l.drop k).flatMap iD) underlying37 hs4 (by unfold iJ;rw[hW];exact hN2) (l.length - k) (by simp only[BM];split<;>omega) hdl
   (λj u hj=>by
    rw[gy];have juN:iJ W g 116 cur:=by unfold iJ;rw[hW];exact jr3
    refine juN.cell ?_
    rw[hds,mP]at hj
    exact hj)
   (by rw[hdl,hR1,hRl];omega) (λu hu=>by
    obtain⟨y,_,hy⟩:=oL.1 hu;exact zQ y u hy)
 have dw:∀(W:World),W.heap=W2.heap->W.os=W2.os->W.tape=W2.tape->W.output=W2.output->Qm aT w (l.take k++x::l.drop k) (.returned (.slice (some w) (l.length+1) G)) (W.setRow w (spl (spl R (k*4) (iD x)) ((k+1)*4) ((l.drop k).flatMap iD)).toArray):=by
  intro W hW e1 e2 e3;have hNW:iJ W w 116 (spl R (k*4) (iD x)):=by unfold iJ;rw[hW];exact hN2
  refine⟨_,rfl,?_,?_⟩
  ·rw[show l.length+1=(l.take k++x::l.drop k).length from(HY l k x (by omega)).symm]
   refine Own.OA hk4 wu (hNW.row _) (by rw[HY l k x (by omega)];omega) hGm (by rw[Aa (by rw[hdl,hR1,hRl];omega),hR1,hRl]) ?_
   rw[HY l k x (by omega),jcK,show(l.length+1)*4=(k+1)*4+((l.drop k).flatMap iD).length by rw[hdl];omega,jas (by rw[hR1,hRl];omega)]
   rw[show(k+1)*4=k*4+(iD x).length by rw[hk4];omega,jas (by rw[hRl];omega),hR,gZ,gZ,oH (by rw[lU iD 4 hk4,bC];omega),kJ (by rw[lU iD 4 hk4,bC];omega),gZ]
  ·have b1:Below aT w W2:=by
    rw[hW2,hW1];exact tV ((((aj aT w).drew).alloc wu _)) wu _
   have b2:Below aT w W:=⟨e1.trans b1.os,e2.trans b1.tape,e3.trans b1.output,by rw[hW];exact b1.size,λq hq=>by rw[hW];exact b1.block q hq⟩
   exact tV b2 wu _
 have XC:=ah dw;have jr7:∀(W:World),W=W1->∀ty,(Builtin.copy_ #[37,37] ty #[.slice (some ⟨w.heap.size,k*4,none⟩) (l.length+1 - k) (G - k),.slice (some vb) 1 1]).run prog W=.ok (goInt 1) W2:=λW hW ty=>by rw[hW];exact hcp1 ty
 have hW1':w.drew.alloc (.cells R.toArray 116)=W1:=hW1.symm;have hw1:IntKind.i64.wrap ((k:Int)+1)=(k:Int)+1:=by rw[jQ];omega
 have hb1:(0:Int)<=(k:Int)+1:=by omega
 have hb2:(k:Int)+1<=(l.length:Int)+1:=by omega
 have hb3:(k:Int)<=(l.length:Int):=by omega
 have htn:((k:Int)+1).toNat=k+1:=by omega
 have hGk:¬(G=k):=by omega
 have jvh:¬(G=k+1):=by omega
 have hlk:¬(l.length=k):=by omega
 have hkl:¬((k:Int)=(l.length:Int)):=by omega
 clear dw hcp1 hW1 hW2 hN hgW hxW hN2 jr3 hds hdl hR1 hRl hR hold hG hGm hi0 htake hcx hg hx hs4;go_enter func196,ntmps196
 go_wp2_with (first
  |(at_builtin;refine Lib.wpList_append_run _ rfl _ _ _ _ rfl _ _ rfl rfl _ _ (hrz _) ?_)
  |(refine Om _ rfl _ _ 37 37 rfl _ _ rfl rfl (jr7 _ rfl _) ?_))
 go_region_law (refine Sj _ rfl (.tmp 50) (.tmp 53) 37 37 rfl (.slice (some ⟨w.heap.size,(k+1)*4,none⟩) (l.length+1 - (k+1)) (G - (k+1))) (.slice (some ⟨g,k*4,none⟩) (l.length - k) (l.length - k)) (by simp[Act.eval,Act.put]) (by simp[Act.eval,Act.put]) (hcp2 W2.drew rfl _) ?_)
 go_wp2_with fail;go_ret
 exact XC.O W2.drew rfl rfl rfl rfl
theorem jh0{L:List Value}{o:Nat}{cs:List Value}(h:o<=L.length):(spl L o cs).drop o=cs++L.drop (o+cs.length):=by
 unfold spl;rw[gZ,rJ (by rw[bC];omega),rQ (by rw[bC];omega),fJ]
theorem jiZ(w:World)(aT:Nat)(l:List eX)(x:eX)(k g vb cap:Nat)(cur:List Value)(hk:k<l.length)(hn:l.length<=100000)(hbg:aT<=g)(hroom:l.length+1<=cap)(hcm:cap<=maxLen)(hvb:vb≠g)
  (hg:iJ w g 116 cur) (hcs:cur.length=cap*4) (htake:cur.take (l.length*4)=l.flatMap iD) (hx:iJ w vb 116 (iD x)):
  Calls prog 196 #[.slice (some g) l.length cap,k,.slice (some vb) 1 1] w (Qm aT w (l.take k++x::l.drop k)):=by
 have hk4:∀x,(iD x).length=4:=λ_=>rfl
 obtain⟨i0,hi0,hz0,kX,jjP⟩:=yJ;have hs4:(prog.info? 116).map (·.size)=some 4:=by rw[hi0];simp[kX]
 have hcap63:cap<=9223372036854775807:=by unfold maxLen at hcm;omega
 obtain⟨D,hD⟩:∃D,D=(l.drop k).flatMap iD:=⟨_,rfl⟩;have hDl:D.length=(l.length - k)*4:=by rw[hD,lU iD 4 hk4,jv]
 have hD1:∀u∈D,u.oneCell'=true:=λu hu=>by
  rw[hD]at hu
  obtain⟨y,_,hy⟩:=oL.1 hu;exact zQ y u hy
 have hov:∀lb cb,(callFunc 214 #[.slice (some vb) 1 1,.slice (some ⟨g,(k+1)*4,none⟩) lb cb]).run prog w=.ok (.value (.bool false)) w:=λlb cb=>by
  rw[run_callFunc_extern (fn:=f214) (by kernel_rfl) (by kernel_rfl) (by kernel_rfl) (by kernel_rfl) (e:=Extern.SlicesOverlaps.overlaps #[37,37] #[4]) (by kernel_rfl),Lib.run_overlaps_apart w 37 4 116 underlying37 4 sizeOf116 vb ⟨g,(k+1)*4,none⟩ 1 1 lb cb hvb _ _ _ _ hx.shape hg.shape (by rw[hcs];omega) (hx.frozen _) (hx.frozen _)]
  rfl
 have hsrc:∀j v,D[j]?=some v->w.drew.cell? ((⟨g,k*4,none⟩:Addr).add j)=some v:=λj v hj=>by
  rw[gy];refine hg.drew.cell ?_
  rw[hD,<- JH iD 4 hk4,<- htake,mP,jG]at hj
  split at hj
  ·exact hj
  ·cases hj
 have hcp1:∀ty,(Builtin.copy_ #[37,37] ty #[.slice (some ⟨g,(k+1)*4,none⟩) (l.length+1 - (k+1)) (cap - (k+1)),.slice (some ⟨g,k*4,none⟩) (l.length+1 - k) (cap - k)]).run prog w.drew=
   .ok (goInt (l.length - k:Nat)) (w.drew.setRow g (spl cur ((k+1)*4) D).toArray):=λty=>
  Jr (P:=prog) w.drew _ _ ty 116 4 g ((k+1)*4) _ _ ⟨g,k*4,none⟩ _ _ cur 116 D underlying37 hs4 hg.drew (l.length - k) (by simp only[BM];split<;>omega) hDl hsrc (by rw[hDl,hcs];omega) hD1
 obtain⟨W1,hW1⟩:∃W1,W1=w.drew.setRow g (spl cur ((k+1)*4) D).toArray:=⟨_,rfl⟩;rw[<- hW1]at hcp1
 have hM:(spl cur ((k+1)*4) D).length=cap*4:=by rw[Aa (by rw[hDl,hcs];omega),hcs]
 have hg1:iJ W1 g 116 (spl cur ((k+1)*4) D):=by rw[hW1];exact hg.drew.row _
 have hx1:iJ W1 vb 116 (iD x):=by rw[hW1];exact hx.drew.other hvb _
 have hcp2:∀ty,(Builtin.copy_ #[37,37] ty #[.slice (some ⟨g,k*4,none⟩) (l.length+1 - k) (cap - k),.slice (some vb) 1 1]).run prog W1=.ok (goInt 1) (W1.setRow g (spl (spl cur ((k+1)*4) D) (k*4) (iD x)).toArray):=λty=>
  Jr (P:=prog) W1 _ _ ty 116 4 g (k*4) _ _ vb 1 1 _ 116 (iD x) underlying37 hs4 hg1 1 (by simp only[BM];split<;>omega) (hk4 x) (λj u hj=>by rw[gy,fM];exact hx1.cell hj) (by rw[hk4,hM];omega) (zQ x)
 have dw:Qm aT w (l.take k++x::l.drop k) (.returned (.slice (some g) (l.length+1) cap)) (W1.setRow g (spl (spl cur ((k+1)*4) D) (k*4) (iD x)).toArray):=by
  refine⟨_,rfl,?_,?_⟩
  ·rw[show l.length+1=(l.take k++x::l.drop k).length from(HY l k x (by omega)).symm]
   refine Own.OA hk4 hbg (hg1.row _) (by rw[HY l k x (by omega)];omega) hcm (by rw[Aa (by rw[hk4,hM];omega),hM]) ?_
   rw[HY l k x (by omega),jcK]
   have e1:spl (spl cur ((k+1)*4) D) (k*4) (iD x)=(cur.take (k*4)++iD x)++(D++cur.drop ((k+1)*4+D.length)):=by
    have a1:spl (spl cur ((k+1)*4) D) (k*4) (iD x)=(spl cur ((k+1)*4) D).take (k*4)++iD x++(spl cur ((k+1)*4) D).drop (k*4+(iD x).length):=rfl;have a2:(spl cur ((k+1)*4) D).take (k*4)=cur.take (k*4):=by
     have:(spl cur ((k+1)*4) D).take (k*4)=((spl cur ((k+1)*4) D).take ((k+1)*4)).take (k*4):=by rw[oG,jK (by omega)]
     rw[this,jar (by rw[hcs];omega),oG,jK (by omega)]
    rw[a1,a2,hk4,show k*4+4=(k+1)*4 by omega,jh0 (by rw[hcs];omega)]
   have e2:cur.take (k*4)=(l.take k).flatMap iD:=by
    have:cur.take (k*4)=(cur.take (l.length*4)).take (k*4):=by rw[oG,jK (by omega)]
    rw[this,htake,Ic iD 4 hk4]
   rw[e1,e2,<- gZ,oH (by simp only[aX,hDl,lU iD 4 hk4,bC,hk4];omega),kJ (by simp only[aX,hDl,lU iD 4 hk4,bC,hk4];omega),hD]
  ·rw[hW1];exact tV (tV (aj aT w).drew hbg _) hbg _
 have XC:=ah dw;have hw1:IntKind.i64.wrap ((k:Int)+1)=(k:Int)+1:=by rw[jQ];omega
 have hb1:(0:Int)<=(k:Int)+1:=by omega
 have hb2:(k:Int)+1<=(l.length:Int)+1:=by omega
 have hb3:(k:Int)<=(l.length:Int):=by omega
 have hb4:(k:Int)<=(l.length:Int)+1:=by omega
 have htn:((k:Int)+1).toNat=k+1:=by omega
 have hGk:¬(cap=k):=by omega
 have jvh:¬(cap=k+1):=by omega
 have hkl:¬((k:Int)=(l.length:Int)):=by omega
 clear dw hW1 hg1 hx1 hD hDl hD1 hsrc hM hi0 htake hcs hg hx hs4 hcm;go_enter func196,ntmps196
 go_wp2_with (simp only[hov]);go_region_law (refine Sj _ rfl (.tmp 73) (.tmp 76) 37 37 rfl (.slice (some ⟨g,(k+1)*4,none⟩) (l.length+1 - (k+1)) (cap - (k+1))) (.slice (some ⟨g,k*4,none⟩) (l.length+1 - k) (cap - k)) (by simp[Act.eval,Act.put]) (by simp[Act.eval,Act.put]) (hcp1 _) ?_)
 go_wp2_with (refine Om _ rfl _ _ 37 37 rfl _ _ rfl rfl (hcp2 _) ?_)
 go_ret
 exact XC.O
theorem jgd(w:World)(aT:Nat)(v:Value)(l:List eX)(x:eX)(k vb:Nat)(mQ:Own iD 4 116 w aT v l)(hk:k<=l.length)(hn:l.length<=100000)(wu:aT<=w.heap.size)(hx:iJ w vb 116 (iD x))(hvb:v.ownBlock≠some vb):
  Calls prog 196 #[v,k,.slice (some vb) 1 1] w (Qm aT w (l.take k++x::l.drop k)):=by
 rcases pG hk with hlt|rfl
 ·obtain⟨g,cap,cur,rfl,hbg,hg,hlc,hcm,hcs,htake⟩:=mQ.row (by omega)
  rcases pG hlc with h1|rfl
  ·exact jiZ w aT l x k g vb cap cur hlt hn hbg h1 hcm (λe=>hvb (by rw[e];rfl)) hg hcs htake hx
  ·exact jlI w aT l x k g vb cur hlt hn wu hg (by rw[<- htake,kJ (by omega)]) hx
 ·have h:=jn5 w aT v l x vb mQ hn wu hx;rw[dR,xH];exact h
end
section
attribute [local go_sem] aV jF iY jI
def Gm(l:List Move)(b g:Int):Nat->Int
 |0=>-1
 |k+1=>if(bZ l k).src=b/\(bZ l k).dW=g then k else Gm l b g k
def Q9(l:List Move)(b g:Int):Int:=Gm l b g l.length
def D9(s:aI)(b g:Nat):Nat->Int
 |0=>-1
 |k+1=>if(yM s b g).is (hold s.aA k)=true then k else D9 s b g k
def Rf(s:aI)(b g:Nat):Int:=D9 s b g s.aA.length
theorem QB(l:List Move)(b g:Int):∀n,(Gm l b g n= -1/\∀j,j<n->¬((bZ l j).src=b/\(bZ l j).dW=g))\/
  ∃k:Nat,k<n/\Gm l b g n=k/\((bZ l k).src=b/\(bZ l k).dW=g)/\∀j,k<j->j<n->¬((bZ l j).src=b/\(bZ l j).dW=g)
 |0=>.inl ⟨rfl,λj hj=>by omega⟩
 |n+1=>by
  by_cases h:(bZ l n).src=b/\(bZ l n).dW=g
  ·exact .inr ⟨n,by omega,aB h,h,λj h1 h2=>by omega⟩
  ·have e:Gm l b g (n+1)=Gm l b g n:=au h;rcases QB l b g n with⟨h1,h2⟩|⟨k,h1,h2,h3,h4⟩
   ·refine .inl ⟨by rw[e,h1],λj hj=>?_⟩
    by_cases hjn:j=n
    ·rw[hjn];exact h
    ·exact h2 j (by omega)
   ·refine .inr ⟨k,by omega,by rw[e,h2],h3,λj hkj hj=>?_⟩
    by_cases hjn:j=n
    ·rw[hjn];exact h
    ·exact h4 j hkj (by omega)
theorem QC(s:aI)(b g:Nat):∀n,(D9 s b g n= -1/\∀j,j<n->(yM s b g).is (hold s.aA j)=false)\/
  ∃k:Nat,k<n/\D9 s b g n=k/\(yM s b g).is (hold s.aA k)=true/\∀j,k<j->j<n->(yM s b g).is (hold s.aA j)=false
 |0=>.inl ⟨rfl,λj hj=>by omega⟩
 |n+1=>by
  by_cases h:(yM s b g).is (hold s.aA n)=true
  ·exact .inr ⟨n,by omega,aB h,h,λj h1 h2=>by omega⟩
  ·have e:D9 s b g (n+1)=D9 s b g n:=au h;have hf:(yM s b g).is (hold s.aA n)=false:=by simpa using h
   rcases QC s b g n with⟨h1,h2⟩|⟨k,h1,h2,h3,h4⟩
   ·refine .inl ⟨by rw[e,h1],λj hj=>?_⟩
    by_cases hjn:j=n
    ·rw[hjn];exact hf
    ·exact h2 j (by omega)
   ·refine .inr ⟨k,by omega,by rw[e,h2],h3,λj hkj hj=>?_⟩
    by_cases hjn:j=n
    ·rw[hjn];exact hf
    ·exact h4 j hkj (by omega)
theorem jgK(w:World)(vs:Value)(p:dG)(s:aI)(b g:Int)(hv:kG w w vs s)(hs:pz p s):
  Calls prog 124 #[vs,b,g] w λe w'=>e=.returned ((Q9 s.aF b g))/\Below w w w':=by
 have h8:=hs.uf;obtain⟨A0,c0,A1,c1,A2,c2,A3,c3,A4,c4,A5,c5,A6,c6,rfl,hV,hN,hO,hH,hM,hI,hU,hX,hl0,hl1,hl2,hl3,hl4,hl5,Jb⟩:=lY hv;go_enter func124,ntmps124
 go_wp2_with fail;obtain⟨W0,hW0,hb0,kX,um,hsE,hK⟩:=KD w s A0 c0 A1 c1 A2 c2 A3 c3 A4 c4 A5 c5 A6 c6;rw[hW0];clear hW0;obtain⟨⟨y0,y1⟩,x0,x1,x2,x3,x4,x5,x6,fB,fC⟩:=hK.O W0 (aj W0 W0);go_wp2_with fail;clear y0 y1 x0 x1 x2 x3 x4 x5 x6 fB fC;go_loopw[7] (λi wr=>∃k:Nat,k<=s.aF.length/\i=.int .i64 ((k:Int) - 1)/\Q9 s.aF b g=Gm s.aF b g k/\Below W0.heap.size W0 wr) (λi _=>(RowKit.intOf i+1).toNat)
 case atStart=>exact⟨s.aF.length,ay _,rfl,rfl,aj _ _⟩
 case round=>
  obtain⟨k,hk,rfl,hl,h0r⟩:=hrel;have hBr:=fD hb0 h0r;have hl':=ah hl;clear hl;obtain⟨⟨y0,y1⟩,x0,x1,x2,x3,x4,x5,x6,fB,fC⟩:=hK.O wr (h0r);rcases k with _|m
  ·go_wp2_with fail;go_ret
   exact⟨by rw[hl'.O];rfl,hBr⟩
  ·have e1:(((m+1:Nat):Int) - 1)=(m:Int):=by omega
   rw[e1];have hm:m<s.aF.length:=by omega
   have hmi:(m:Int)<(s.aF.length:Int):=by omega
   obtain⟨okm,lm,f0,f1,f2,f3⟩:=(hM.O wr hBr).at_.move hm;by_cases h1:(bZ s.aF m).src=b
   ·by_cases h2:(bZ s.aF m).dW=g
    ·have t1:((bZ s.aF m).src==b)=true:=by simpa using h1
     have t2:((bZ s.aF m).dW==g)=true:=by simpa using h2
     have hx:=ah (show Q9 s.aF b g=(m:Int)by rw[hl'.O];exact aB ⟨h1,h2⟩)
     clear h1 h2;go_wp2_with fail;go_ret
     exact⟨by rw[hx.O];rfl,hBr⟩
    ·have t1:((bZ s.aF m).src==b)=true:=by simpa using h1
     have t2:((bZ s.aF m).dW==g)=false:=by simpa using h2
     have hx:=ah (show Q9 s.aF b g=Gm s.aF b g m by rw[hl'.O];exact au (λh=>h2 h.2))
     clear h1 h2;go_wp2_with fail;clear y0 y1 x0 x1 x2 x3 x4 x5 x6 fB fC;go_roundw
     case rel=>exact⟨m,by omega,by go_num,hx.O,h0r⟩
     case measure=>simp[dY]
   ·have t1:((bZ s.aF m).src==b)=false:=by simpa using h1
    have hx:=ah (show Q9 s.aF b g=Gm s.aF b g m by rw[hl'.O];exact au (λh=>h1 h.1))
    clear h1;go_wp2_with fail;clear y0 y1 x0 x1 x2 x3 x4 x5 x6 fB fC;go_roundw
    case rel=>exact⟨m,by omega,by go_num,hx.O,h0r⟩
    case measure=>simp[dY]
theorem jgL(w:World)(vs:Value)(p:dG)(s:aI)(b g:Nat)(hv:kG w w vs s)(hs:pz p s):
  Calls prog 125 #[vs,b,g] w λe w'=>e=.returned ((Rf s b g))/\Below w w w':=by
 have hs':=ah hs;obtain⟨A0,c0,A1,c1,A2,c2,A3,c3,A4,c4,A5,c5,A6,c6,rfl,hV,hN,hO,hH,hM,hI,hU,hX,hl0,hl1,hl2,hl3,hl4,hl5,Jb⟩:=lY hv;go_enter func125,ntmps125
 go_wp2_with fail;obtain⟨W0,hW0,hb0,kX,um,hsE,hK⟩:=KD w s A0 c0 A1 c1 A2 c2 A3 c3 A4 c4 A5 c5 A6 c6;rw[hW0];clear hW0;obtain⟨⟨y0,y1⟩,x0,x1,x2,x3,x4,x5,x6,fB,fC⟩:=hK.O W0 (aj W0 W0);go_wp2_with fail;clear y0 y1 x0 x1 x2 x3 x4 x5 x6 fB fC;clear hs;go_loopw[7,8] (λi _ wr=>∃k:Nat,k<=s.aA.length/\i=.int .i64 ((k:Int) - 1)/\Rf s b g=D9 s b g k/\Below W0.heap.size W0 wr) (λi _ _=>(RowKit.intOf i+1).toNat)
 case atStart=>exact⟨s.aA.length,ay _,rfl,rfl,aj _ _⟩
 case round=>
  obtain⟨k,hk,rfl,hl,h0r⟩:=hrel;have hBr:=fD hb0 h0r;have hl':=ah hl;clear hl;obtain⟨⟨y0,y1⟩,x0,x1,x2,x3,x4,x5,x6,fB,fC⟩:=hK.O wr (h0r);rcases k with _|m
  ·go_wp2_with fail;go_ret
   exact⟨by rw[hl'.O];rfl,hBr⟩
  ·have e1:(((m+1:Nat):Int) - 1)=(m:Int):=by omega
   rw[e1];have hm:m<s.aA.length:=by omega
   have hmi:(m:Int)<(s.aA.length:Int):=by omega
   obtain⟨okm,lm,f0,f1,f2,f3⟩:=(hH.O wr hBr).at_.hold hm;have hat:=hs'.O.yL hm;obtain⟨o,eo⟩:∃o:Nat,(hold s.aA m).aC=o:=⟨(hold s.aA m).aC.toNat,by omega⟩
   obtain⟨l,el⟩:∃l:Nat,(hold s.aA m).aK=l:=⟨(hold s.aA m).aK.toNat,by omega⟩
   have his:=FX (s:=s) (b:=(b:Int)) (g:=(g:Int)) (x:=hold s.aA m);rw[eo,el]at his hat
   simp only[dn]at his hat
   have ho:o<s.ak.length:=by omega
   have hlo:l<(s.aC o).aH.length:=by omega
   have hoi:(o:Int)<(s.ak.length:Int):=by omega
   have hloi:(l:Int)<((bK s.ak o).aH.length:Int):=by show(l:Int)<((s.aC o).aH.length:Int);omega
   have ja4:=ah his;rw[eo]at f0
   rw[el]at f1
   clear his hat eo el;generalize (hold s.aA m).bin=bn at f2 ja4
   generalize (hold s.aA m).n=n at f3
   have hpt:D9 s b g (m+1)=if(yM s b g).is (hold s.aA m)=true then(m:Int)else D9 s b g m:=rfl
   have jom:=ah hpt;clear hpt;have h2a:=h0r.alloc h0r.size (.cells #[o,l,bn,n] 116);have hbl:=ah (iJ.new wr 116 #[o,l,bn,n]);go_wp2_with fail;clear y0 y1 x0 x1 x2 x3 x4 x5 x6 fB fC;clear f0 f1 f2 f3 okm lm;generalize wr.alloc (.cells #[o,l,bn,n] 116)=W4 at h2a hbl ⊢
   generalize wr.heap.size=hx at hbl ⊢
   have hB4:=fD hb0 h2a;obtain⟨Al,cl,ol,ll,d0,d1,hsl⟩:=(hO.O W4 hB4).aC ho;obtain⟨ok2,l2,e0,e1',e2,e3⟩:=hsl.at_.aK hlo;change W4.cell? _=some (.int .i64 (s.aK o l).dW)at e0
   have x0':=hbl.O.cell (j:=0) rfl;have x1':=hbl.O.cell (j:=1) rfl;have x2':=hbl.O.cell (j:=2) rfl;have x3':=hbl.O.cell (j:=3) rfl;have tx:=hbl.O.lt;obtain⟨⟨y0,y1⟩,x0,x1,x2,x3,x4,x5,x6,fB,fC⟩:=hK.O W4 (h2a);by_cases h1:bn=(b:Int)
   ·by_cases h2:(s.aK o l).dW=(g:Int)
    ·have t1:(bn==(b:Int))=true:=by simpa using h1
     have t2:((s.aK o l).dW==(g:Int))=true:=by simpa using h2
     have hr:=ah (show Rf s b g=(m:Int)by rw[hl'.O,jom.O,aB (ja4.O.2 ⟨h1,h2⟩)])
     clear h1 h2;go_wp2_with fail;go_quiet (fail)
     have h4q:=below_drewN hB4 nq;go_wp2_with fail;go_ret
     exact⟨by rw[hr.O];rfl,h4q⟩
    ·have t1:(bn==(b:Int))=true:=by simpa using h1
     have t2:((s.aK o l).dW==(g:Int))=false:=by simpa using h2
     have hr:=ah (show Rf s b g=D9 s b g m by rw[hl'.O,jom.O,au (λh=>h2 (ja4.O.1 h).2)])
     clear h1 h2;go_wp2_with fail;go_quiet (fail)
     have h4q:=below_drewN h2a nq;go_wp2_with fail;clear y0 y1 x0 x1 x2 x3 x4 x5 x6 fB fC;clear d0 d1 e0 e1' e2 e3 x0' x1' x2' x3' ol ll ok2 l2 hsl;go_roundw
     case rel=>exact⟨m,by omega,by go_num,hr.O,h4q⟩
     case measure=>simp[dY]
   ·have t1:(bn==(b:Int))=false:=by simpa using h1
    have hr:=ah (show Rf s b g=D9 s b g m by rw[hl'.O,jom.O,au (λh=>h1 (ja4.O.1 h).1)])
    clear h1;go_wp2_with fail;go_quiet (fail)
    have h4q:=below_drewN h2a nq;go_wp2_with fail;clear y0 y1 x0 x1 x2 x3 x4 x5 x6 fB fC;clear d0 d1 e0 e1' e2 e3 x0' x1' x2' x3' ol ll ok2 l2 hsl;go_roundw
    case rel=>exact⟨m,by omega,by go_num,hr.O,h4q⟩
    case measure=>simp[dY]
end
end Wh
