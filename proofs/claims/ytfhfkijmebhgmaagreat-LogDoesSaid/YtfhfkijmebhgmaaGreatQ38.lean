/- Texts of the claim, joined. -/
import Derived.Deep.RegionLaw
import Derived.Test.YtfhfkijmebhgmaaGreatQ35
set_option maxHeartbeats 20000000
set_option maxRecDepth 100000
namespace Wh
open Go Go.RowKit Go.Shelf Go.Proofs Tryz
attribute [local go_sem] aT jW jm kC
def Si(v:Value):Prop:=∃v0 v1 v2 A n c v4 v5 v6,v=.agg #[v0,v1,v2,.slice A n c,v4,v5,v6]/\n<=c
theorem Si.at{v0 v1 v2 v4 v5 v6:Value}{A:Option Addr}{n c:Nat}(h:Si (.agg #[v0,v1,v2,.slice A n c,v4,v5,v6])):n<=c:=by
 obtain⟨_,_,_,_,_,_,_,_,_,e,h⟩:=h;injection e with e
 simp only[Array.mk.injEq,List.cons.injEq,mD]at e
 obtain⟨_,_,_,e3,_⟩:=e;injection e3 with e1 e2 e3
 omega
theorem GH(w:World)(aO:Nat)(v:Value)(l m:List Move)(lC:Own nP 4 48 w aO v l)(g o c B:Nat)(hA:At w B (some ⟨g,o,none⟩) (m.flatMap nP))(hn:l.length+m.length<=1000)(rV:aO<=w.heap.size):
  ∃v' w',(Builtin.append_ #[29,29] 29 #[v,.slice (some ⟨g,o,none⟩) m.length c]).run prog w=.ok v' w'/\Own nP 4 48 w' aO v' (l++m)/\w.grownBy w' v.ownBlock/\Below aO w w':=by
 obtain⟨ii,hi,hz,G8,hbytes⟩:=KO;obtain⟨v',w3,hr,hown3,hg3,_,_⟩:=run_append_own_at (P:=prog) w aO 29 29 48 ii _ 4 32 underlying29 hi hz G8 hbytes rfl (by decide) v _ _ lC ⟨g,o,none⟩ m.length c (m.flatMap nP) (kL nP 4 (λ_=>rfl) m)
  (λj u hj=>by rw[gU];exact hA.cell hj) (λu hu=>by obtain⟨y,_,hy⟩:=oL.1 hu;exact O4 y u hy) (by unfold maxLen;omega) (by omega) rV
 refine⟨v',w3,hr,?_,hg3,(aj _ _).grown hg3 rV λk hk=>(nK lC k hk).1⟩
 unfold Own;rw[aZ,gy];exact hown3
theorem At.head{w:World}{B:Nat}{A:Option Addr}{xs ys:List Value}(h:At w B A (xs++ys)):At w B A xs:=λhn=>by
 obtain⟨h1,h2,h3⟩:=h (by simp[hn])
 refine⟨h1,h2,λj v hj=>h3 j v ?_⟩
 rw[fE (by
  have:=(eF.1 hj).1
  exact this)]
 exact hj
theorem jhn(w:World)(v vs:Value)(p:dA)(s:aJ)(k n:Int)(hp:mW w w.heap.size v p)(hv:lK w w.heap.size vs s)(hcap:Si vs):
  Calls prog 57 #[v,vs,.int .i64 k,.int .i64 n] w (nN (CW p s k n) w):=by
 obtain⟨Ab,cb,As,cs,rfl,hP',hBn,hSz,hlb,hls⟩:=sN hp;obtain⟨A0,c0,A1,c1,A2,c2,A3,c3,A4,c4,A5,c5,A6,c6,rfl,hV,hN,hO,hH,hM,hI,hU,hX,hl0,hl1,hl2,hl3,hl4,hl5,JA⟩:=oW hv;go_enter func57,ntmps57
 go_wp2_with fail;obtain⟨W0,hW0,hb0,lg,uZ,hsE,hK,hR⟩:=yD w p s Ab cb As cs A0 c0 A1 c1 A2 c2 A3 c3 A4 c4 A5 c5 A6 c6;rw[hW0];clear hW0;have hc3:=hcap.at
 clear hcap;obtain⟨⟨y0,y1⟩,x0,x1,x2,x3,x4,x5,x6,eP,eU⟩:=hK.O W0 (aj W0.heap.size W0);go_wp2_with fail;clear y0 y1 x0 x1 x2 x3 x4 x5 x6 eP eU;refine(Ag _ _ _ p s (hP'.O _ hb0) (hV.O _ hb0)).mono ?_
 rintro e W1 ⟨rfl,h1⟩;have hB1:=hb0.trans (h1.mono hb0.size);obtain⟨⟨y0,y1⟩,x0,x1,x2,x3,x4,x5,x6,eP,eU⟩:=hK.O W1 (h1);by_cases hc:aQ p s=0
 ·have hc':=ah hc;have hsn:=ah (kM.1 hc).1;rw[hc];clear hc;have h8:=hsn.O.vJ;have hw4:IntKind.i64.wrap ((s.aF.length:Int) - 1)=(s.aF.length:Int) - 1:=aN _ (by omega)
  cases g1:cZ k 0 ((s.aF.length:Int) - 1)
  ·have bK:=ah (Qo (k:=k) (n:=n) hc'.O (by have:=nU.1 g1;omega))
   go_wp2_with fail;refine(Fb g1 _).mono ?_
   rintro e w' ⟨rfl,rfl⟩;clear g1;have fH:=hR.O _ h1;go_wp2_with (refine dB (.tmp 8) (.tmp 27) dH dH rfl fH rfl rfl (λw9 dM je=>?_))
   have dN:=Below.gB hB1 je;go_wp2_with fail;exact jo results57 dM rfl rfl (jQ bK.O dN)
  have g1':=dV.1 g1;obtain⟨i,rfl⟩:∃i:Nat,k=i:=⟨k.toNat,by omega⟩
  have hk:i<s.aF.length:=by omega
  have hki:(i:Int)<(s.aF.length:Int):=by omega
  obtain⟨gd,sr,ds,mn,hxm⟩:∃gd sr ds mn,bH s.aF i=⟨gd,sr,ds,mn⟩:=⟨_,_,_,_,rfl⟩;have hmv:=hsn.O.bH hk;rw[hxm]at hmv
  simp only at hmv
  obtain⟨g,rfl⟩:∃g:Nat,gd=g:=⟨gd.toNat,by omega⟩
  obtain⟨a,rfl⟩:∃a:Nat,sr=a:=⟨sr.toNat,by omega⟩
  obtain⟨d,rfl⟩:∃d:Nat,ds=d:=⟨ds.toNat,by omega⟩
  have rG:g<p.aP.length:=by omega
  have hap:a<p.bQ.length:=by omega
  have hdp:d<p.bQ.length:=by omega
  have had:a≠d:=by omega
  have hao:a<s.on.length:=by rw[hsn.O.tY];exact hap
  have hdo:d<s.on.length:=by rw[hsn.O.tY];exact hdp
  have hga:g<(fO s.on a).length:=by rw[hsn.O.rowLen hap];exact rG
  have hgd:g<(fO s.on d).length:=by rw[hsn.O.rowLen hdp];exact rG
  have hai:(a:Int)<(s.on.length:Int):=by omega
  have hdi:(d:Int)<(s.on.length:Int):=by omega
  have jtP:(g:Int)<((fO s.on a).length:Int):=by omega
  have jtN:(g:Int)<((fO s.on d).length:Int):=by omega
  have hca:=hsn.O.cell hap rG;have hcd:=hsn.O.cell hdp rG;have Rx:=ah hxm;obtain⟨okm,lm,e0,e1,e2,e3⟩:=(hM.O W1 hB1).at_.move hk;rw[hxm]at e0 e1 e2 e3
  simp only at e0 e1 e2 e3
  have h1a:=h1.alloc h1.size (.cells #[.int .i64 g,.int .i64 a,.int .i64 d,.int .i64 mn] 48);have UA:=hB1.alloc hB1.size (.cells #[.int .i64 g,.int .i64 a,.int .i64 d,.int .i64 mn] 48);clear hxm;go_wp2_with fail;refine(Fb g1 _).mono ?_
  rintro e w' ⟨rfl,rfl⟩;clear g1 g1' hw4;go_wp2_with fail;cases g3:cZ n 0 mn
  ·have bK:=ah (NI (n:=n) hc'.O hk (by rw[Rx.O];have:=nU.1 g3;simp only;omega))
   refine(Fb g3 _).mono ?_
   rintro e w' ⟨rfl,rfl⟩;clear g3;have fH:=hR.O _ h1a;go_wp2_with (refine dB (.tmp 8) (.tmp 38) dH dH rfl fH rfl rfl (λw9 dM je=>?_))
   have dN:=Below.gB UA je;go_wp2_with fail;exact jo results57 dM rfl rfl (jQ bK.O dN)
  have g3':=dV.1 g3;refine(Fb g3 _).mono ?_
  rintro e w' ⟨rfl,rfl⟩;clear g3;have Oc:=ah (iV.new W1 48 #[.int .i64 g,.int .i64 a,.int .i64 d,.int .i64 mn]);obtain⟨Ar,cr,or0,TQ,Yx,vS⟩:=(hN.O W1 hB1).row hdo;obtain⟨or1,lr1,QW⟩:=vS.at_.int hgd;change W1.cell? _=some (.int .i64 (cell s.on d g))at QW
  have hw0:IntKind.i64.wrap (cell s.on d g+n)=cell s.on d g+n:=aN _ (by omega)
  by_cases hm:200<cell s.on d g+n
  ·have bK:=ah (VL (n:=n) hc'.O hk (by rw[Rx.O];exact⟨by omega,by simp only;omega⟩) (by rw[Rx.O];simp only[bZ];exact hm))
   go_wp2_with fail;go_quiet (fail)
   have Nq:=below_drewN h1a nq;have hBd:=below_drewN UA nq;clear y0 y1 x0 x1 x2 x3 x4 x5 x6 eP eU;clear e0 e1 e2 e3 okm lm or0 TQ Yx vS or1 lr1 QW Oc h1a UA;generalize (W1.alloc (.cells #[.int .i64 g,.int .i64 a,.int .i64 d,.int .i64 mn] 48)).drewN nq=W4 at Nq hBd ⊢
   have fH:=hR.O _ Nq;go_wp2_with (refine dB (.tmp 8) (.tmp 52) dH dH rfl fH rfl rfl (λw9 dM je=>?_))
   have dN:=Below.gB hBd je;go_wp2_with fail;exact jo results57 dM rfl rfl (jQ bK.O dN)
  have hmd:=fA hm;have bK:=ah (jbp (n:=n) hc'.O ⟨hk,by omega,by rw[Rx.O];simp only;omega,by rw[Rx.O];simp only[bZ];omega⟩)
  go_wp2_with fail;go_quiet (fail)
  have Nq:=below_drewN h1a nq;have hBd:=below_drewN UA nq;have Ho:=ah (Oc.O.below (below_drewN (aj _ _) nq) Oc.O.lt);clear y0 y1 x0 x1 x2 x3 x4 x5 x6 eP eU;clear e0 e1 e2 e3 okm lm or0 TQ Yx vS or1 lr1 QW Oc h1a UA hw0 hmd;generalize W1.heap.size=wl at Ho ⊢
  generalize (W1.alloc (.cells #[.int .i64 g,.int .i64 a,.int .i64 d,.int .i64 mn] 48)).drewN nq=W4 at Nq hBd Ho ⊢
  obtain⟨⟨y0,y1⟩,x0,x1,x2,x3,x4,x5,x6,eP,eU⟩:=hK.O W4 (Nq);go_wp2_with fail;clear y0 y1 x0 x1 x2 x3 x4 x5 x6 eP eU;refine(EI _ _ p s (hV.O _ hBd) hsn.O).mono ?_
  rintro e W5 ⟨_,rfl,⟨V5,rfl,AY⟩,h5⟩;have pq:=(AY).one;have xw:=vG (W5);go_wp2_with (refine dB (.tmp 12) (.tmp 54) dH V5 rfl xw rfl pq (λw6 lM Ib=>?_);refine aW ?_)
  unfold Hid;have sG:=qX Ib;have vT:=lM.lt;clear pq xw Ib;have h56:=h5.trans (sG.mono h5.size);have hx6:=ah (Bx.of lM (AY.below sG));have h06:=Nq.trans (h56.mono Nq.size);have vT:=ah (Ho.O.below h56 Ho.O.lt);have hlw:wl<W4.heap.size:=Ho.O.lt;have hle:w.heap.size<=W4.heap.size:=hBd.size;have hle0:W0.heap.size<=W4.heap.size:=Nq.size;have zZ:W4.heap.size<=W5.heap.size:=h5.size;clear lM AY sG h5 Ho Nq hBd h56;have jts:wl<w6.heap.size:=vT.O.lt;generalize W4.heap.size=aO at hx6 hle hle0 zZ hlw
  generalize W5.heap.size=bx at hx6 zZ ⊢
  have jed:aO<=bx:=zZ;have hcd1:cell (rZ s a g n).on d g=cell s.on d g:=by
   show cell (setCell s.on a g _) d g=_;rw[pR hao hga,ay (by omega)]
  have hw1:IntKind.i64.wrap (cell s.on a g - n)=cell s.on a g - n:=aN _ (by omega)
  have hw2:IntKind.i64.wrap (cell s.on d g+n)=cell s.on d g+n:=aN _ (by omega)
  obtain⟨Ic,con,PE,gr,cr,cur,Ot,Wy,Oa,r0,er,Wx,hbr,rc⟩:=hx6.O.own.Py hao hga;have c0:=hx6.O.cells.1;rw[Ot]at c0
  have er':=ah er;clear Ot er Oa hbr;have m0:=vT.O.cell (j:=0) rfl;have m1:=vT.O.cell (j:=1) rfl;go_wp2_with fail;go_still_tail 21,(by kernel_rfl)
  change wpList _ _ _ _ _ w6.drew;refine GU rfl (.tmp 75) (.tmp 74) rfl rfl (i:=a) (g:=g) (q:=cell s.on a g - n) hx6.O.drew hao hga er'.O rfl rfl (λw7 hx7 Ee=>?_)
  refine fC ?_
  have h07:=h06.drew.trans (Ee.below (B:=W0.heap.size) (λq hq=>by omega) h06.drew.size)
  have zx:=ah (show Bx w7 aO bx 31 [] V5 (rZ s a g n)from hx7)
  have Uy:=ah (Ee.blk (show iV w6.drew wl 48 _ from vT.O) (by omega))
  clear hx7 Ee c0 r0 rc m0 m1 hw1 hx6 h06 er' vT;have jd5:d<(rZ s a g n).on.length:=by show d<(setCell _ _ _ _).length;rw[qh];exact hdo
  have hgd1:g<(fO (rZ s a g n).on d).length:=by show g<(fO (setCell _ _ _ _) d).length;rw[uq];exact hgd
  obtain⟨Ic,con,PE,gr,cr,cur,Ot,Wy,Oa,r0,er,Wx,hbr,rc⟩:=zx.O.own.Py jd5 hgd1;rw[hcd1]at rc
  have c0:=zx.O.cells.1;rw[Ot]at c0
  have hl1:(rZ s a g n).on.length=s.on.length:=qh;have hl2:(fO (rZ s a g n).on d).length=(fO s.on d).length:=uq;rw[hl1]at c0
  rw[hl2]at r0
  have er':=ah er;clear Ot er Oa hbr hl1 hl2;have m0:=Uy.O.cell (j:=0) rfl;have m2:=Uy.O.cell (j:=2) rfl;go_wp2_with fail;go_still_tail 21,(by kernel_rfl)
  change wpList _ _ _ _ _ w7.drew;refine GU rfl (.tmp 96) (.tmp 95) rfl rfl (i:=d) (g:=g) (q:=cell s.on d g+n) zx.O.drew jd5 hgd1 er'.O rfl rfl (λw8 KQ AX=>?_)
  refine fC ?_
  have DY:=h07.drew.trans (AX.below (B:=W0.heap.size) (λq hq=>by omega) h07.drew.size)
  have vP:=ah (show Bx w8 aO bx 31 [] V5 (mv2 s a d g n)by unfold mv2;rw[hcd1];exact KQ)
  clear KQ AX c0 r0 rc m0 m2 hw2 zx h07 er' Uy jd5 hgd1;have Uz:=hb0.trans (DY.mono hb0.size);have jrU:=(hM.O w8 Uz).at_;obtain⟨⟨g3,o3,rfl⟩,_⟩:=jrU.move hk;have hMv:=ah (show ∀W,Below w8.heap.size w8 W->At W W.heap.size (some ⟨g3,o3,none⟩) (s.aF.flatMap nP)from λW hW=>(hM.O W (Uz.trans (hW.mono Uz.size))).at_)
  have hlt:(s.aF.take i).length=i:=by rw[bT];omega
  have hld:(s.aF.drop (i+1)).length=s.aF.length - (i+1):=fQ;have hba:Below w8.heap.size w8 (w8.alloc (.cells #[] 48)).drew:=((aj _ _).alloc (au _) _).drew;have hown0:Own nP 4 48 (w8.alloc (.cells #[] 48)).drew w8.heap.size (.slice (some ⟨w8.heap.size,0,none⟩) 0 0) []:=(Own.VQ w8 _ (au _):Own nP 4 48 (w8.alloc (.cells #[] 48)) w8.heap.size (.slice (some ⟨w8.heap.size,0,none⟩) 0 0) []);obtain⟨v1,w1,hr1,yj,hg1,hb1⟩:=GH _ w8.heap.size _ [] (s.aF.take i) hown0 g3 o3 c3 _ (At.head (ys:=(s.aF.drop i).flatMap nP) (by rw[<- gy,mF];exact hMv.O _ hba)) (by rw[hlt];simp only[dY];omega) hba.size
  rw[hlt]at hr1
  rw[iy]at yj
  have h81:=hba.trans hb1;obtain⟨A1',c1',rfl⟩:=yj.isSlice;rw[hlt]at hr1 yj
  have Ia:∃o7,At w1 w1.heap.size (some ⟨g3,o7,none⟩) ((s.aF.drop (i+1)).flatMap nP)/\(c3=i+1/\o7=o3\/¬c3=i+1/\o7=o3+(i+1)*4):=by
   by_cases hcq:c3=i+1
   ·refine⟨o3,?_,.inl ⟨hcq,rfl⟩⟩
    have:s.aF.drop (i+1)=[]:=wG (by omega)
    rw[this];exact At.nil
   ·refine⟨o3+(i+1)*4,?_,.inr ⟨hcq,rfl⟩⟩
    have h2:=hMv.O _ h81;rw[<- mF (i+1) s.aF,gy]at h2
    have h3:=h2.tail;rwa [kL nP 4 (λ_=>rfl),bT,jS (by omega)]at h3
  obtain⟨o7,hA7,Ia⟩:=Ia;obtain⟨v2,w2,hr2,yh,hg2,hb2⟩:=GH w1 w8.heap.size (.slice A1' i c1') (s.aF.take i) (s.aF.drop (i+1)) yj g3 o7 (c3 - (i+1)) _ hA7 (by rw[hlt,hld];omega) h81.size
  rw[hld]at hr2
  try rw[hlt]at hr2
  rw[<- nT]at yh
  obtain⟨TB,c2',rfl⟩:=yh.isSlice;have h82:=h81.trans hb2;have h01:=DY.trans (h81.mono DY.size);have h02:=DY.trans (h82.mono DY.size);have hx2:=vP.O.below h82;have hO2:=ah (show dK w2 aO {V5 with aF:=.slice TB (s.aF.eraseIdx i).length c2'} {mv2 s a d g n with aF:=s.aF.eraseIdx i}from hx2.own.VJ (yO w2 _) (yh.from_ (by have:=vP.O.lt;omega)))
  have Ji:=ah hx2.uK;have b3:w2.cell? ⟨bx,3,none⟩=some V5.aF:=hx2.cells.2.2.2.1;have f3:w2.frozen? ⟨bx,3,none⟩=false:=hx2.uK.blk.frozen 3;have hr1':=ah hr1;have hr2':=ah hr2;have q1:i<=c3:=by omega
  have q2:(i:Int)<=(c3:Int):=by omega
  have q3:(0:Int)<=(i:Int)+1:=by omega
  have q4:(i:Int)+1<=(s.aF.length:Int):=by omega
  have q5:((i:Int)+1).toNat=i+1:=by omega
  have q6:¬(c3=0):=by omega
  have q7:IntKind.i64.wrap ((i:Int)+1)=(i:Int)+1:=aN _ (by omega)
  have juw:=ah h82;obtain⟨⟨y0,y1⟩,x0,x1,x2,x3,x4,x5,x6,eP,eU⟩:=hK.O w8 (DY);obtain⟨⟨y01,y11⟩,x01,x11,x21,x31,x41,x51,x61,jmj,jmh⟩:=hK.O w1 (h01);obtain⟨⟨y02,y12⟩,x02,x12,x22,x32,x42,x52,x62,jmi,jmg⟩:=hK.O w2 (h02);clear hown0 yj yh hr1 hr2 hA7 hx2 hg1 hg2 hb1 hb2 hba h81 h82 h01 jrU hlt hld vP DY Uz;rcases Ia with⟨hcq,Ia⟩|⟨hcq,Ia⟩
  ·subst Ia;have jd8:(c3=i+1)=True:=eq_true hcq;clear hcq;go_wp2_with fail;go_region_law (first|refine qV _ rfl (.tmp 97) (.tmp 101) 29 29 rfl (.slice (some ⟨w8.heap.size,0,none⟩) 0 0) (.slice (some ⟨g3,o7,none⟩) i c3) (by simp[Act.eval,Act.put]) (by simp[Act.eval,Act.put]) hr1'.O ?_|refine qV _ rfl (.tmp 102) (.tmp 107) 29 29 rfl (.slice A1' i c1') (.slice (some ⟨g3,o7,none⟩) (s.aF.length - (i+1)) (c3 - (i+1))) (by simp[Act.eval,Act.put]) (by simp[Act.eval,Act.put]) hr2'.O ?_)
   all_goals
    clear y0 y1 x0 x1 x2 x3 x4 x5 x6 eP eU;clear y01 y11 x01 x11 x21 x31 x41 x51 x61 jmj jmh;clear y02 y12 x02 x12 x22 x32 x42 x52 x62 jmi jmg;clear b3 f3 q1 q2 q3 q4 q5 q6 q7;obtain⟨Dz,Cb⟩:=Bx.set' (V:=V5) (V':={V5 with aF:=.slice TB (s.aF.eraseIdx i).length c2'}) (s':={mv2 s a d g n with aF:=s.aF.eraseIdx i}) (rest:=[]) (by rw[iJ];exact Ji.O.blk) hO2.O Xp 3 (.slice TB (s.aF.eraseIdx i).length c2') rfl
    have sK:=ah (show Bx (w2.setCell ⟨bx,3,none⟩ (.slice TB (s.aF.eraseIdx i).length c2')) aO bx 31 [] {V5 with aF:=.slice TB (s.aF.eraseIdx i).length c2'} (AQ s i n)by rw[<- VK Rx.O];exact Dz)
    have h010:=qR h02 Cb h02.size (λk hk=>by injection hk with hk;omega)
    clear Dz Cb Ji hO2 hr1' hr2' jd8;generalize w2.setCell ⟨bx,3,none⟩ (.slice TB (s.aF.eraseIdx i).length c2')=w10 at sK h010 ⊢
    have jcd:=hb0.trans (h010.mono hb0.size);generalize ({V5 with aF:=.slice TB (s.aF.eraseIdx i).length c2'}:SV)=V9 at sK
    have fH:=hR.O _ h010;obtain⟨b0,b1,b2,b3,b4,b5,b6⟩:=jk.cells sK.O.uK;have lG:=dK.one sK.O.own;go_wp2_with (refine dB (.tmp 8) (.tmp 110) dH V9 rfl fH rfl lG (λw9 dM je=>?_))
    have wC:=dK.keptBy sK.O.own je fH (by decide) (by decide) (by decide) (by decide) (by decide) (by decide)
    have dN:=Below.gB jcd je;clear b0 b1 b2 b3 b4 b5 b6;go_wp2_with fail;exact jo results57 dM rfl rfl (EZ bK.O (wC.from_ hle) dN)
  ·subst Ia;have jd8:=hcq;clear hcq;go_wp2_with fail;go_region_law (first|refine qV _ rfl (.tmp 97) (.tmp 101) 29 29 rfl (.slice (some ⟨w8.heap.size,0,none⟩) 0 0) (.slice (some ⟨g3,o3,none⟩) i c3) (by simp[Act.eval,Act.put]) (by simp[Act.eval,Act.put]) hr1'.O ?_|refine qV _ rfl (.tmp 102) (.tmp 107) 29 29 rfl (.slice A1' i c1') (.slice (some ⟨g3,o3+(i+1)*4,none⟩) (s.aF.length - (i+1)) (c3 - (i+1))) (by simp[Act.eval,Act.put]) (by simp[Act.eval,Act.put]) hr2'.O ?_)
   all_goals
    clear y0 y1 x0 x1 x2 x3 x4 x5 x6 eP eU;clear y01 y11 x01 x11 x21 x31 x41 x51 x61 jmj jmh;clear y02 y12 x02 x12 x22 x32 x42 x52 x62 jmi jmg;clear b3 f3 q1 q2 q3 q4 q5 q6 q7;obtain⟨Dz,Cb⟩:=Bx.set' (V:=V5) (V':={V5 with aF:=.slice TB (s.aF.eraseIdx i).length c2'}) (s':={mv2 s a d g n with aF:=s.aF.eraseIdx i}) (rest:=[]) (by rw[iJ];exact Ji.O.blk) hO2.O Xp 3 (.slice TB (s.aF.eraseIdx i).length c2') rfl
    have sK:=ah (show Bx (w2.setCell ⟨bx,3,none⟩ (.slice TB (s.aF.eraseIdx i).length c2')) aO bx 31 [] {V5 with aF:=.slice TB (s.aF.eraseIdx i).length c2'} (AQ s i n)by rw[<- VK Rx.O];exact Dz)
    have h010:=qR h02 Cb h02.size (λk hk=>by injection hk with hk;omega)
    clear Dz Cb Ji hO2 hr1' hr2' jd8;generalize w2.setCell ⟨bx,3,none⟩ (.slice TB (s.aF.eraseIdx i).length c2')=w10 at sK h010 ⊢
    have jcd:=hb0.trans (h010.mono hb0.size);generalize ({V5 with aF:=.slice TB (s.aF.eraseIdx i).length c2'}:SV)=V9 at sK
    have fH:=hR.O _ h010;obtain⟨b0,b1,b2,b3,b4,b5,b6⟩:=jk.cells sK.O.uK;have lG:=dK.one sK.O.own;go_wp2_with (refine dB (.tmp 8) (.tmp 110) dH V9 rfl fH rfl lG (λw9 dM je=>?_))
    have wC:=dK.keptBy sK.O.own je fH (by decide) (by decide) (by decide) (by decide) (by decide) (by decide)
    have dN:=Below.gB jcd je;clear b0 b1 b2 b3 b4 b5 b6;go_wp2_with fail;exact jo results57 dM rfl rfl (EZ bK.O (wC.from_ hle) dN)
 ·have hne:(aQ p s !=0)=true:=by simpa using hc
  have bK:=ah (YJ (k:=k) (n:=n) hc);clear hc;have fH:=hR.O _ h1;go_wp2_with (refine dB (.tmp 8) (.tmp 18) dH dH rfl fH rfl rfl (λw9 dM je=>?_))
  have dN:=Below.gB hB1 je;go_wp2_with fail;exact jo results57 dM rfl rfl (jQ bK.O dN)
end Wh
namespace Wh
open Go Go.RowKit Go.Shelf Go.Proofs Tryz
attribute [local go_sem] aT jW jm kC
def Fq(l:List Move)(b g:Int):Nat->Int
 |0=>-1
 |k+1=>if(bH l k).src=b/\(bH l k).dh=g then k else Fq l b g k
def Qp(l:List Move)(b g:Int):Int:=Fq l b g l.length
def CZ(s:aJ)(b g:Nat):Nat->Int
 |0=>-1
 |k+1=>if(yt s b g).is (hold s.aA k)=true then k else CZ s b g k
def Qq(s:aJ)(b g:Nat):Int:=CZ s b g s.aA.length
theorem PS(l:List Move)(b g:Int):∀n,(Fq l b g n= -1/\∀j,j<n->¬((bH l j).src=b/\(bH l j).dh=g))\/
  ∃k:Nat,k<n/\Fq l b g n=k/\((bH l k).src=b/\(bH l k).dh=g)/\∀j,k<j->j<n->¬((bH l j).src=b/\(bH l j).dh=g)
 |0=>.inl ⟨rfl,λj hj=>by omega⟩
 |n+1=>by
  by_cases h:(bH l n).src=b/\(bH l n).dh=g
  ·exact .inr ⟨n,by omega,aB h,h,λj h1 h2=>by omega⟩
  ·have e:Fq l b g (n+1)=Fq l b g n:=ay h;rcases PS l b g n with⟨h1,h2⟩|⟨k,h1,h2,h3,h4⟩
   ·refine .inl ⟨by rw[e,h1],λj hj=>?_⟩
    by_cases hjn:j=n
    ·rw[hjn];exact h
    ·exact h2 j (by omega)
   ·refine .inr ⟨k,by omega,by rw[e,h2],h3,λj hkj hj=>?_⟩
    by_cases hjn:j=n
    ·rw[hjn];exact h
    ·exact h4 j hkj (by omega)
theorem PU(s:aJ)(b g:Nat):∀n,(CZ s b g n= -1/\∀j,j<n->(yt s b g).is (hold s.aA j)=false)\/
  ∃k:Nat,k<n/\CZ s b g n=k/\(yt s b g).is (hold s.aA k)=true/\∀j,k<j->j<n->(yt s b g).is (hold s.aA j)=false
 |0=>.inl ⟨rfl,λj hj=>by omega⟩
 |n+1=>by
  by_cases h:(yt s b g).is (hold s.aA n)=true
  ·exact .inr ⟨n,by omega,aB h,h,λj h1 h2=>by omega⟩
  ·have e:CZ s b g (n+1)=CZ s b g n:=ay h;have hf:(yt s b g).is (hold s.aA n)=false:=by simpa using h
   rcases PU s b g n with⟨h1,h2⟩|⟨k,h1,h2,h3,h4⟩
   ·refine .inl ⟨by rw[e,h1],λj hj=>?_⟩
    by_cases hjn:j=n
    ·rw[hjn];exact hf
    ·exact h2 j (by omega)
   ·refine .inr ⟨k,by omega,by rw[e,h2],h3,λj hkj hj=>?_⟩
    by_cases hjn:j=n
    ·rw[hjn];exact hf
    ·exact h4 j hkj (by omega)
theorem jfP(w:World)(vs:Value)(p:dA)(s:aJ)(b g:Int)(hv:lK w w.heap.size vs s)(hs:o9 p s):
  Calls prog 71 #[vs,.int .i64 b,.int .i64 g] w λe w'=>e=.returned (.int .i64 (Qp s.aF b g))/\Below w.heap.size w w':=by
 have h8:=hs.vJ;obtain⟨A0,c0,A1,c1,A2,c2,A3,c3,A4,c4,A5,c5,A6,c6,rfl,hV,hN,hO,hH,hM,hI,hU,hX,hl0,hl1,hl2,hl3,hl4,hl5,JA⟩:=oW hv;go_enter func71,ntmps71
 go_wp2_with fail;obtain⟨W0,hW0,hb0,lg,uZ,hsE,hK⟩:=Lp w s A0 c0 A1 c1 A2 c2 A3 c3 A4 c4 A5 c5 A6 c6;rw[hW0];clear hW0;obtain⟨⟨y0,y1⟩,x0,x1,x2,x3,x4,x5,x6,eP,eU⟩:=hK.O W0 (aj W0.heap.size W0);go_wp2_with fail;clear y0 y1 x0 x1 x2 x3 x4 x5 x6 eP eU;go_loopw[7] (λi wr=>∃k:Nat,k<=s.aF.length/\i=.int .i64 ((k:Int) - 1)/\Qp s.aF b g=Fq s.aF b g k/\Below W0.heap.size W0 wr) (λi _=>(RowKit.intOf i+1).toNat)
 case atStart=>exact⟨s.aF.length,au _,rfl,rfl,aj _ _⟩
 case round=>
  obtain⟨k,hk,rfl,hl,h0r⟩:=hrel;have hBr:=hb0.trans (h0r.mono hb0.size);have hl':=ah hl;clear hl;obtain⟨⟨y0,y1⟩,x0,x1,x2,x3,x4,x5,x6,eP,eU⟩:=hK.O wr (h0r);rcases k with _|m
  ·go_wp2_with fail;go_ret
   exact⟨by rw[hl'.O];rfl,hBr⟩
  ·have e1:(((m+1:Nat):Int) - 1)=(m:Int):=by omega
   rw[e1];have hm:m<s.aF.length:=by omega
   have hmi:(m:Int)<(s.aF.length:Int):=by omega
   obtain⟨okm,lm,f0,f1,f2,f3⟩:=(hM.O wr hBr).at_.move hm;by_cases h1:(bH s.aF m).src=b
   ·by_cases h2:(bH s.aF m).dh=g
    ·have t1:((bH s.aF m).src==b)=true:=by simpa using h1
     have t2:((bH s.aF m).dh==g)=true:=by simpa using h2
     have hx:=ah (show Qp s.aF b g=(m:Int)by rw[hl'.O];exact aB ⟨h1,h2⟩)
     clear h1 h2;go_wp2_with fail;go_ret
     exact⟨by rw[hx.O];rfl,hBr⟩
    ·have t1:((bH s.aF m).src==b)=true:=by simpa using h1
     have t2:((bH s.aF m).dh==g)=false:=by simpa using h2
     have hx:=ah (show Qp s.aF b g=Fq s.aF b g m by rw[hl'.O];exact ay (λh=>h2 h.2))
     clear h1 h2;go_wp2_with fail;clear y0 y1 x0 x1 x2 x3 x4 x5 x6 eP eU;go_roundw
     case rel=>exact⟨m,by omega,by go_num,hx.O,h0r⟩
     case measure=>simp[RowKit.intOf]
   ·have t1:((bH s.aF m).src==b)=false:=by simpa using h1
    have hx:=ah (show Qp s.aF b g=Fq s.aF b g m by rw[hl'.O];exact ay (λh=>h1 h.1))
    clear h1;go_wp2_with fail;clear y0 y1 x0 x1 x2 x3 x4 x5 x6 eP eU;go_roundw
    case rel=>exact⟨m,by omega,by go_num,hx.O,h0r⟩
    case measure=>simp[RowKit.intOf]
theorem jfQ(w:World)(vs:Value)(p:dA)(s:aJ)(b g:Nat)(hv:lK w w.heap.size vs s)(hs:o9 p s):
  Calls prog 72 #[vs,.int .i64 b,.int .i64 g] w λe w'=>e=.returned (.int .i64 (Qq s b g))/\Below w.heap.size w w':=by
 have hs':=ah hs;obtain⟨A0,c0,A1,c1,A2,c2,A3,c3,A4,c4,A5,c5,A6,c6,rfl,hV,hN,hO,hH,hM,hI,hU,hX,hl0,hl1,hl2,hl3,hl4,hl5,JA⟩:=oW hv;go_enter func72,ntmps72
 go_wp2_with fail;obtain⟨W0,hW0,hb0,lg,uZ,hsE,hK⟩:=Lp w s A0 c0 A1 c1 A2 c2 A3 c3 A4 c4 A5 c5 A6 c6;rw[hW0];clear hW0;obtain⟨⟨y0,y1⟩,x0,x1,x2,x3,x4,x5,x6,eP,eU⟩:=hK.O W0 (aj W0.heap.size W0);go_wp2_with fail;clear y0 y1 x0 x1 x2 x3 x4 x5 x6 eP eU;clear hs;go_loopw[7,8] (λi _ wr=>∃k:Nat,k<=s.aA.length/\i=.int .i64 ((k:Int) - 1)/\Qq s b g=CZ s b g k/\Below W0.heap.size W0 wr) (λi _ _=>(RowKit.intOf i+1).toNat)
 case atStart=>exact⟨s.aA.length,au _,rfl,rfl,aj _ _⟩
 case round=>
  obtain⟨k,hk,rfl,hl,h0r⟩:=hrel;have hBr:=hb0.trans (h0r.mono hb0.size);have hl':=ah hl;clear hl;obtain⟨⟨y0,y1⟩,x0,x1,x2,x3,x4,x5,x6,eP,eU⟩:=hK.O wr (h0r);rcases k with _|m
  ·go_wp2_with fail;go_ret
   exact⟨by rw[hl'.O];rfl,hBr⟩
  ·have e1:(((m+1:Nat):Int) - 1)=(m:Int):=by omega
   rw[e1];have hm:m<s.aA.length:=by omega
   have hmi:(m:Int)<(s.aA.length:Int):=by omega
   obtain⟨okm,lm,f0,f1,f2,f3⟩:=(hH.O wr hBr).at_.hold hm;have hat:=hs'.O.yR hm;obtain⟨o,eo⟩:∃o:Nat,(hold s.aA m).aC=o:=⟨(hold s.aA m).aC.toNat,by omega⟩
   obtain⟨l,el⟩:∃l:Nat,(hold s.aA m).aG=l:=⟨(hold s.aA m).aG.toNat,by omega⟩
   have his:=ES (s:=s) (b:=(b:Int)) (g:=(g:Int)) (x:=hold s.aA m);rw[eo,el]at his hat
   simp only[bZ]at his hat
   have ho:o<s.ak.length:=by omega
   have hlo:l<(s.aC o).aH.length:=by omega
   have hoi:(o:Int)<(s.ak.length:Int):=by omega
   have hloi:(l:Int)<((aU s.ak o).aH.length:Int):=by show(l:Int)<((s.aC o).aH.length:Int);omega
   have Z9:=ah his;rw[eo]at f0
   rw[el]at f1
   clear his hat eo el;generalize (hold s.aA m).bin=bn at f2 Z9
   generalize (hold s.aA m).n=n at f3
   have hpt:CZ s b g (m+1)=if(yt s b g).is (hold s.aA m)=true then(m:Int)else CZ s b g m:=rfl
   have jni:=ah hpt;clear hpt;have h2a:=h0r.alloc h0r.size (.cells #[.int .i64 o,.int .i64 l,.int .i64 bn,.int .i64 n] 46);have hbl:=ah (iV.new wr 46 #[.int .i64 o,.int .i64 l,.int .i64 bn,.int .i64 n]);go_wp2_with fail;clear y0 y1 x0 x1 x2 x3 x4 x5 x6 eP eU;clear f0 f1 f2 f3 okm lm;generalize wr.alloc (.cells #[.int .i64 o,.int .i64 l,.int .i64 bn,.int .i64 n] 46)=W4 at h2a hbl ⊢
   generalize wr.heap.size=hx at hbl ⊢
   have hB4:=hb0.trans (h2a.mono hb0.size);obtain⟨Al,cl,ol,ll,d0,d1,hsl⟩:=(hO.O W4 hB4).aC ho;obtain⟨ok2,l2,e0,e1',e2,e3⟩:=hsl.at_.aG hlo;change W4.cell? _=some (.int .i64 (s.aG o l).dh)at e0
   have x0':=hbl.O.cell (j:=0) rfl;have x1':=hbl.O.cell (j:=1) rfl;have x2':=hbl.O.cell (j:=2) rfl;have x3':=hbl.O.cell (j:=3) rfl;have tx:=hbl.O.lt;obtain⟨⟨y0,y1⟩,x0,x1,x2,x3,x4,x5,x6,eP,eU⟩:=hK.O W4 (h2a);by_cases h1:bn=(b:Int)
   ·by_cases h2:(s.aG o l).dh=(g:Int)
    ·have t1:(bn==(b:Int))=true:=by simpa using h1
     have t2:((s.aG o l).dh==(g:Int))=true:=by simpa using h2
     have hr:=ah (show Qq s b g=(m:Int)by rw[hl'.O,jni.O,aB (Z9.O.2 ⟨h1,h2⟩)])
     clear h1 h2;go_wp2_with fail;go_quiet (fail)
     have h4q:=below_drewN hB4 nq;go_wp2_with fail;go_ret
     exact⟨by rw[hr.O];rfl,h4q⟩
    ·have t1:(bn==(b:Int))=true:=by simpa using h1
     have t2:((s.aG o l).dh==(g:Int))=false:=by simpa using h2
     have hr:=ah (show Qq s b g=CZ s b g m by rw[hl'.O,jni.O,ay (λh=>h2 (Z9.O.1 h).2)])
     clear h1 h2;go_wp2_with fail;go_quiet (fail)
     have h4q:=below_drewN h2a nq;go_wp2_with fail;clear y0 y1 x0 x1 x2 x3 x4 x5 x6 eP eU;clear d0 d1 e0 e1' e2 e3 x0' x1' x2' x3' ol ll ok2 l2 hsl;go_roundw
     case rel=>exact⟨m,by omega,by go_num,hr.O,h4q⟩
     case measure=>simp[RowKit.intOf]
   ·have t1:(bn==(b:Int))=false:=by simpa using h1
    have hr:=ah (show Qq s b g=CZ s b g m by rw[hl'.O,jni.O,ay (λh=>h1 (Z9.O.1 h).1)])
    clear h1;go_wp2_with fail;go_quiet (fail)
    have h4q:=below_drewN h2a nq;go_wp2_with fail;clear y0 y1 x0 x1 x2 x3 x4 x5 x6 eP eU;clear d0 d1 e0 e1' e2 e3 x0' x1' x2' x3' ol ll ok2 l2 hsl;go_roundw
    case rel=>exact⟨m,by omega,by go_num,hr.O,h4q⟩
    case measure=>simp[RowKit.intOf]
end Wh
namespace Wh
open Go Go.RowKit Go.Shelf Go.Proofs Tryz
section
variable {ops:Array Oper} {rest:List Oper} {o:Oper} {a:Act} {w:World} {Q:Exit→Act→World→Prop} {aO b:Nat} {t:TypeId} {cs:List Value} {V:SV} {s:aJ}
theorem jaP(hgd:o.guard=none)(x z:Operand)(ho:o.op=.store 3 x z)(hn:o.dst=none){k gm n c:Nat}{q:Int}(hB:Bx w aO b t cs V s)(hk:k<s.aF.length)
  (hv:V.aF=.slice (some ⟨gm,0,none⟩) n c) (ht:48≠t) (hx:a.eval x=.pointer (some ⟨gm,k*4+3,none⟩)) (hz:a.eval z=.int .i64 q)
  (h:∀w',Bx w' aO b t cs V {s with aF:=s.aF.set k {bH s.aF k with n:=q}}->Step (·=gm) w w'->wpList prog ops Q rest a w'):wpList prog ops Q (o::rest) a w:=
 jv hgd λK hK=>by
  obtain⟨g',c',cur,e1,_,e3,f0,f1,f2,f3⟩:=hB.own.bH hk;rw[hv]at e1
  injection e1 with e1
  injection e1 with e1
  injection e1 with e1
  subst e1;have hm:=hB.own.aF;rw[hv]at hm
  obtain⟨h1,h2⟩:=Own.store hm (λ_=>rfl) (i:=k) hk (show 3<4 by omega) (y:={bH s.aF k with n:=q}) (u:=.int .i64 q) (by rw[pI hk];rfl)
  rw[<- hv]at h1
  have h4:dK (w.setCell ⟨gm,k*4+3,none⟩ (.int .i64 q)) aO V {s with aF:=s.aF.set k {bH s.aF k with n:=q}}:=hB.own.IQ (by rw[hv];exact h2) h1
  have h3:=h _ ⟨hB.off e3 ht h2,h4,hB.ty⟩ (.jR h2 λk hk=>by injection hk with hk;exact hk.symm)
  have hf:=e3.frozen (k*4+3);clear h hB h1 h2 h4 f0 f1 f2 e3 hm;unfold Oper.wp;simp only[execOp,ho,hx,hz];go_simp
  exact hK _ _ h3
end
theorem Own.cap{α:Type}{enc:α->List Value}{size:Nat}{e:TypeId}{w:World}{aO:Nat}{A:Option Addr}{n c:Nat}{l:List α}(h:Own enc size e w aO (.slice A n c) l):n<=c:=by
 obtain⟨A',c',hv⟩:=h.isSlice;injection hv with _ e2 _
 rcases h.2 with⟨h1,h2⟩|⟨g,cap,cur,h1,_,_,h4,_⟩
 ·injection h1 with _ h1 _
  omega
 ·injection h1 with _ h1 h5
  omega
theorem Uu{l:List Move}{k:Nat}(hk:k<l.length)(y:Move):bH (l.set k y) k=y:=by
 rw[pI (by rw[jU];exact hk),pY]
theorem J7{α:Type}:∀(l:List α) (k:Nat) (y:α),(l.set k y).eraseIdx k=l.eraseIdx k
 |[],_,_=>rfl
 |_::_,0,_=>rfl
 |x::r,k+1,y=>by
  show x::((r.set k y).eraseIdx k)=x::r.eraseIdx k;rw[J7 r k y]
def yC(s:aJ)(b g:Nat)(t:Int):List Value:=(List.range 12).map λq:Nat=>.int .i64 (rH s b g t (q / 3:Nat) (q%3:Nat))
section
variable {p:dA} {s:aJ} {b g:Nat} {t:Int}
theorem Yc(hs:o9 p s):yC s b g 0=[.int .i64 0,.int .i64 0,.int .i64 0,.int .i64 0,.int .i64 0,.int .i64 0,.int .i64 0,.int .i64 0,.int .i64 0,.int .i64 0,.int .i64 0,.int .i64 0]:=by
 unfold yC;rw[show(List.range 12).map (λq:Nat=>Value.int .i64 (rH s b g 0 (q / 3:Nat) (q%3:Nat)))=(List.range 12).map (λ_=>Value.int .i64 0)from oM λq _=>by rw[Y7 hs]]
 rfl
theorem KE(h:∀o k:Int,rH s b g (t+1) o k=rH s b g t o k):yC s b g (t+1)=yC s b g t:=by
 unfold yC;simp only[h]
theorem OA{o k:Nat}(ho:o<4)(hk:k<3):(yC s b g t)[o*3+k]?=some (.int .i64 (rH s b g t o k)):=by
 unfold yC;have h:o*3+k<12:=by omega
 have e1:(o*3+k) / 3=o:=by omega
 have e2:(o*3+k)%3=k:=by omega
 rw[iZ,nD h]
 simp only[iH,e1,e2]
theorem Yd{a c:Nat}(hc:c<3)(h:∀o k:Nat,rH s b g (t+1) o k=rH s b g t o k+if o=a/\k=c then 1 else 0):yC s b g (t+1)=(yC s b g t).set (a*3+c) (.int .i64 (rH s b g t a c+1)):=by
 unfold yC;apply lW
 ·simp
 ·intro q h1 h2;have hq:q<12:=by simpa using h1
  rw[zS];simp only[zT,List.getElem_range];rw[h];by_cases he:a*3+c=q
  ·have e1:q / 3=a:=by omega
   have e2:q%3=c:=by omega
   rw[aB he,e1,e2,aB ⟨rfl,rfl⟩]
  ·rw[ay he,ay (by omega),jC]
end
def ctO(p:dA)(s:aJ)(b g:Nat)(jq:Int)(q:Nat):aJ:=Ba p b (λo k=>rH s b g (over s b g jq) o k) q (wM s b g jq (over s b g jq))
def U0(p:dA)(s:aJ)(b g:Nat)(jq:Int)(q k:Nat):aJ:=yY p q b (λk=>rH s b g (over s b g jq) q k) k (ctO p s b g jq q)
section
variable {p:dA} {s:aJ} {b g q:Nat} {jq:Int}
theorem jcv(hc:aQ p s=0)(f:zY p s b g jq)(hq:q<=s.ak.length):JC p b (λo' _=>o'<q) (wM s b g jq (over s b g jq)) (ctO p s b g jq q):=by
 have h:=jf hc;have hcut:=jf (Le hc f);exact Ep hcut (λo k ho hk=>by
  rw[uD]at ho
  rw[rY o ho]at hk
  exact Pm h ho hk) _ (by rw[uD];exact hq)
theorem Po(hc:aQ p s=0)(f:zY p s b g jq)(hq:q<=s.ak.length):lI p (ctO p s b g jq q)/\(ctO p s b g jq q).ak.length=s.ak.length/\∀o,o<s.ak.length->((ctO p s b g jq q).aC o).aH.length=(s.aC o).aH.length:=by
 have h:=jcv hc f hq;exact⟨h.right,by rw[h.ak,uD],λo ho=>by rw[h.aH,rY o ho]⟩
theorem Y9(hc:aQ p s=0)(f:zY p s b g jq)(hq:q<s.ak.length){k:Nat}(hk:k<(s.aC q).aH.length):rH s b g (over s b g jq) q k=0\/May (ctO p s b g jq q) q k (rH s b g (over s b g jq) q k):=
 (jcv hc f (jh hq)).may (by omega) (Pm (jf hc) hq hk)
theorem jcw(hc:aQ p s=0)(f:zY p s b g jq)(hq:q<s.ak.length){k:Nat}(hk:k<=(s.aC q).aH.length):JC p b (λo' k'=>o'=q/\k'<k) (ctO p s b g jq q) (U0 p s b g jq q k):=by
 obtain⟨h1,_,h3⟩:=Po hc f (jh hq);exact Js (b:=b) (o:=q) h1 (λk hk=>Y9 hc f hq (by rw[<- h3 q hq];exact hk)) k (by rw[h3 q hq];exact hk)
theorem jgy(hc:aQ p s=0)(f:zY p s b g jq)(hq:q<s.ak.length){k:Nat}(hk:k<=(s.aC q).aH.length):lI p (U0 p s b g jq q k)/\(U0 p s b g jq q k).ak.length=s.ak.length/\∀o,o<s.ak.length->((U0 p s b g jq q k).aC o).aH.length=(s.aC o).aH.length:=by
 obtain⟨_,h2,h3⟩:=Po hc f (jh hq);have h:=jcw hc f hq hk;exact⟨h.right,by rw[h.ak,h2],λo ho=>by rw[h.aH,h3 o ho]⟩
theorem jly(hc:aQ p s=0)(f:zY p s b g jq)(hq:q<s.ak.length){k:Nat}(hk:k<(s.aC q).aH.length)(hn:0<rH s b g (over s b g jq) q k):May (U0 p s b g jq q k) q k (rH s b g (over s b g jq) q k):=
 ((jcw hc f hq (jh hk)).may (by omega) (Y9 hc f hq hk)).resolve_left (by omega)
theorem jjD{k:Nat}(hn:¬ 0<rH s b g (over s b g jq) q k):U0 p s b g jq q (k+1)=U0 p s b g jq q k:=by
 show(qL p (U0 p s b g jq q k) q k (rH s b g (over s b g jq) q k) b).1=_;have:qL p (U0 p s b g jq q k) q k (rH s b g (over s b g jq) q k) b=(U0 p s b g jq q k,rH s b g (over s b g jq) q k):=JG (by omega)
 rw[this]
theorem jlz(hc:aQ p s=0)(f:zY p s b g jq)(hq:q<s.ak.length):U0 p s b g jq q (s.aC q).aH.length=ctO p s b g jq (q+1):=by
 show _=yY p q b _ ((ctO p s b g jq q).aC q).aH.length (ctO p s b g jq q);rw[(Po hc f (jh hq)).2.2 q hq];rfl
theorem jlw:ctO p s b g jq s.ak.length=H8 p s b g jq:=rfl
end
end Wh
