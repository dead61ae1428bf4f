/- Texts of the claim, joined. -/
import Derived.Deep.RegionLaw
import Derived.Test.YtfhfkijmebhgmaaGreatQ34
set_option maxHeartbeats 20000000
set_option maxRecDepth 100000
namespace Wh
open Go Go.RowKit Go.Shelf Go.Proofs Tryz
attribute [local go_sem] au dQ dI dX
def SX (v:Value):Prop:=∃ v0 v1 v2 A n c v4 v5 v6,v=.agg #[v0,v1,v2,.slice A n c,v4,v5,v6]∧n≤c
theorem SX.at {v0 v1 v2 v4 v5 v6:Value} {A:Option Addr} {n c:Nat} (h:SX (.agg #[v0,v1,v2,.slice A n c,v4,v5,v6])):n≤c:=by
 obtain ⟨_,_,_,_,_,_,_,_,_,e,h⟩:=h;injection e with e
 simp only [Array.mk.injEq,List.cons.injEq,nV] at e
 obtain ⟨_,_,_,e3,_⟩:=e;injection e3 with e1 e2 e3
 omega
theorem yF (w:World) (base:Nat) (v:Value) (l m:List Move) (hown:Own gV 4 48 w base v l) (g o c B:Nat) (hA:At w B (some ⟨g,o,none⟩) (m.flatMap gV)) (hn:l.length+m.length≤1000) (hbase:base≤w.heap.size):
  ∃ v' w',(Builtin.append_ #[29,29] 29 #[v,.slice (some ⟨g,o,none⟩) m.length c]).run prog w=.ok v' w'∧Own gV 4 48 w' base v' (l++m)∧w.grownBy w' v.ownBlock∧Below base w w':=by
 obtain ⟨ii,hi,hz,hsize,hbytes⟩:=EC;obtain ⟨v',w3,hr,hown3,hg3,_,_⟩:=run_append_own_at (P:=prog) w base 29 29 48 ii _ 4 32 underlying29 hi hz hsize hbytes rfl (by decide) v _ _ hown ⟨g,o,none⟩ m.length c (m.flatMap gV) (flat_length gV 4 (fun _=>rfl) m)
  (fun j u hj=>by rw [jq];exact hA.cell hj) (fun u hu=>by obtain ⟨y,_,hy⟩:=Bj.1 hu;exact Ja y u hy) (by unfold maxLen;omega) (by omega) hbase
 refine ⟨v',w3,hr,?_,hg3,(aj _ _).grown hg3 hbase fun k hk=>(yO hown k hk).1⟩
 unfold Own;rw [dK,lD];exact hown3
theorem At.head {w:World} {B:Nat} {A:Option Addr} {xs ys:List Value} (h:At w B A (xs++ys)):At w B A xs:=fun hn=>by
 obtain ⟨h1,h2,h3⟩:=h (by simp [hn])
 refine ⟨h1,h2,fun j v hj=>h3 j v ?_⟩
 rw [nZ (by
  have:=(lC.1 hj).1
  exact this)]
 exact hj
theorem jeT (w:World) (v vs:Value) (p:Plan) (s:State) (k n:Int) (hp:fZ w w.heap.size v p) (hv:fE w w.heap.size vs s) (hcap:SX vs):
  Calls prog 57 #[v,vs,.int .i64 k,.int .i64 n] w (gU (moved p s k n) w):=by
 obtain ⟨Ab,cb,As,cs,rfl,hP',hBn,hSz,hlb,hls⟩:=kN hp;obtain ⟨A0,c0,A1,c1,A2,c2,A3,c3,A4,c4,A5,c5,A6,c6,rfl,hV,hN,hO,hH,hM,hI,hU,hX,hl0,hl1,hl2,hl3,hl4,hl5,CW⟩:=iG hv;go_enter func57,ntmps57
 go_wp2_with fail;obtain ⟨W0,hW0,hb0,hsz0,hsz1,hsE,hK,hR⟩:=oH w p s Ab cb As cs A0 c0 A1 c1 A2 c2 A3 c3 A4 c4 A5 c5 A6 c6;rw [hW0];clear hW0;have hc3:=hcap.at
 clear hcap;obtain ⟨⟨y0,y1⟩,x0,x1,x2,x3,x4,x5,x6,aV,aW⟩:=hK.out W0 (aj W0.heap.size W0);go_wp2_with fail;clear y0 y1 x0 x1 x2 x3 x4 x5 x6 aV aW;refine (qw _ _ _ p s (hP'.out _ hb0) (hV.out _ hb0)).mono ?_
 rintro e W1 ⟨rfl,h1⟩;have hB1:=hb0.trans (h1.mono hb0.size);obtain ⟨⟨y0,y1⟩,x0,x1,x2,x3,x4,x5,x6,aV,aW⟩:=hK.out W1 (h1);by_cases hc:checkState p s=0
 ·have hc':=Lib.hid hc;have hsn:=Lib.hid (dV.1 hc).1;rw [hc];clear hc;have h8:=hsn.out.lJ;have hw4:IntKind.i64.wrap ((s.moves.length:Int) - 1)=(s.moves.length:Int) - 1:=bf _ (by omega)
  cases g1:within k 0 ((s.moves.length:Int) - 1)
  ·have hfin:=Lib.hid (J4 (k:=k) (n:=n) hc'.out (by have:=gY.1 g1;omega))
   go_wp2_with fail;refine (wQ g1 _).mono ?_
   rintro e w' ⟨rfl,rfl⟩;clear g1;have aX:=hR.out _ h1;go_wp2_with (refine aK (.tmp 8) (.tmp 27) aP aP rfl aX rfl rfl (fun w9 aN dh=>?_))
   have aQ:=Below.bG hB1 dh;go_wp2_with fail;exact dn results57 aN rfl rfl (dF hfin.out aQ)
  have g1':=within_iff.1 g1;obtain ⟨i,rfl⟩:∃ i:Nat,k=i:=⟨k.toNat,by omega⟩
  have hk:i<s.moves.length:=by omega
  have hki:(i:Int)<(s.moves.length:Int):=by omega
  obtain ⟨gd,sr,ds,mn,hxm⟩:∃ gd sr ds mn,aB s.moves i=⟨gd,sr,ds,mn⟩:=⟨_,_,_,_,rfl⟩;have hmv:=hsn.out.aB hk;rw [hxm] at hmv
  simp only at hmv
  obtain ⟨g,rfl⟩:∃ g:Nat,gd=g:=⟨gd.toNat,by omega⟩
  obtain ⟨a,rfl⟩:∃ a:Nat,sr=a:=⟨sr.toNat,by omega⟩
  obtain ⟨d,rfl⟩:∃ d:Nat,ds=d:=⟨ds.toNat,by omega⟩
  have WI:g<p.sizes.length:=by omega
  have hap:a<p.aH.length:=by omega
  have hdp:d<p.aH.length:=by omega
  have had:a≠d:=by omega
  have hao:a<s.on.length:=by rw [hsn.out.ku];exact hap
  have hdo:d<s.on.length:=by rw [hsn.out.ku];exact hdp
  have hga:g<(rowAt s.on a).length:=by rw [hsn.out.rowLen hap];exact WI
  have hgd:g<(rowAt s.on d).length:=by rw [hsn.out.rowLen hdp];exact WI
  have hai:(a:Int)<(s.on.length:Int):=by omega
  have hdi:(d:Int)<(s.on.length:Int):=by omega
  have jqE:(g:Int)<((rowAt s.on a).length:Int):=by omega
  have jqC:(g:Int)<((rowAt s.on d).length:Int):=by omega
  have hca:=hsn.out.cell hap WI;have hcd:=hsn.out.cell hdp WI;have MB:=Lib.hid hxm;obtain ⟨okm,lm,e0,e1,e2,e3⟩:=(hM.out W1 hB1).at_.move hk;rw [hxm] at e0 e1 e2 e3
  simp only at e0 e1 e2 e3
  have h1a:=h1.alloc h1.size (.cells #[.int .i64 g,.int .i64 a,.int .i64 d,.int .i64 mn] 48);have OL:=hB1.alloc hB1.size (.cells #[.int .i64 g,.int .i64 a,.int .i64 d,.int .i64 mn] 48);clear hxm;go_wp2_with fail;refine (wQ g1 _).mono ?_
  rintro e w' ⟨rfl,rfl⟩;clear g1 g1' hw4;go_wp2_with fail;cases g3:within n 0 mn
  ·have hfin:=Lib.hid (Hl (n:=n) hc'.out hk (by rw [MB.out];have:=gY.1 g3;simp only;omega))
   refine (wQ g3 _).mono ?_
   rintro e w' ⟨rfl,rfl⟩;clear g3;have aX:=hR.out _ h1a;go_wp2_with (refine aK (.tmp 8) (.tmp 38) aP aP rfl aX rfl rfl (fun w9 aN dh=>?_))
   have aQ:=Below.bG OL dh;go_wp2_with fail;exact dn results57 aN rfl rfl (dF hfin.out aQ)
  have g3':=within_iff.1 g3;refine (wQ g3 _).mono ?_
  rintro e w' ⟨rfl,rfl⟩;clear g3;have Ic:=Lib.hid (dw.new W1 48 #[.int .i64 g,.int .i64 a,.int .i64 d,.int .i64 mn]);obtain ⟨Ar,cr,YF,N8,Ux,hrow⟩:=(hN.out W1 hB1).row hdo;obtain ⟨YE,lr1,KP⟩:=hrow.at_.int hgd;change W1.cell? _=some (.int .i64 (cell s.on d g)) at KP
  have hw0:IntKind.i64.wrap (cell s.on d g+n)=cell s.on d g+n:=bf _ (by omega)
  by_cases hm:200<cell s.on d g+n
  ·have hfin:=Lib.hid (QI (n:=n) hc'.out hk (by rw [MB.out];exact ⟨by omega,by simp only;omega⟩) (by rw [MB.out];simp only [eH];exact hm))
   go_wp2_with fail;go_quiet (fail)
   have Gi:=below_drewN h1a nq;have hBd:=below_drewN OL nq;clear y0 y1 x0 x1 x2 x3 x4 x5 x6 aV aW;clear e0 e1 e2 e3 okm lm YF N8 Ux hrow YE lr1 KP Ic h1a OL;generalize (W1.alloc (.cells #[.int .i64 g,.int .i64 a,.int .i64 d,.int .i64 mn] 48)).drewN nq=W4 at Gi hBd ⊢
   have aX:=hR.out _ Gi;go_wp2_with (refine aK (.tmp 8) (.tmp 52) aP aP rfl aX rfl rfl (fun w9 aN dh=>?_))
   have aQ:=Below.bG hBd dh;go_wp2_with fail;exact dn results57 aN rfl rfl (dF hfin.out aQ)
  have hmd:=iU hm;have hfin:=Lib.hid (YI (n:=n) hc'.out ⟨hk,by omega,by rw [MB.out];simp only;omega,by rw [MB.out];simp only [eH];omega⟩)
  go_wp2_with fail;go_quiet (fail)
  have Gi:=below_drewN h1a nq;have hBd:=below_drewN OL nq;have zA:=Lib.hid (Ic.out.below (below_drewN (aj _ _) nq) Ic.out.lt);clear y0 y1 x0 x1 x2 x3 x4 x5 x6 aV aW;clear e0 e1 e2 e3 okm lm YF N8 Ux hrow YE lr1 KP Ic h1a OL hw0 hmd;generalize W1.heap.size=wl at zA ⊢
  generalize (W1.alloc (.cells #[.int .i64 g,.int .i64 a,.int .i64 d,.int .i64 mn] 48)).drewN nq=W4 at Gi hBd zA ⊢
  obtain ⟨⟨y0,y1⟩,x0,x1,x2,x3,x4,x5,x6,aV,aW⟩:=hK.out W4 (Gi);go_wp2_with fail;clear y0 y1 x0 x1 x2 x3 x4 x5 x6 aV aW;refine (vS _ _ p s (hV.out _ hBd) hsn.out).mono ?_
  rintro e W5 ⟨_,rfl,⟨V5,rfl,qK⟩,h5⟩;have jc:=(qK).one;have nK:=pV (W5);go_wp2_with (refine aK (.tmp 12) (.tmp 54) aP V5 rfl nK rfl jc (fun w6 fH zO=>?_);refine aU ?_)
  unfold Hid;have jO:=jK zO;have lQ:=fH.lt;clear jc nK zO;have h56:=h5.trans (jO.mono h5.size);have hx6:=Lib.hid (Bx.of fH (qK.below jO));have h06:=Gi.trans (h56.mono Gi.size);have lQ:=Lib.hid (zA.out.below h56 zA.out.lt);have hlw:wl<W4.heap.size:=zA.out.lt;have hle:w.heap.size≤W4.heap.size:=hBd.size;have hle0:W0.heap.size≤W4.heap.size:=Gi.size;have qp:W4.heap.size≤W5.heap.size:=h5.size;clear fH qK jO h5 zA Gi hBd h56;have jqi:wl<w6.heap.size:=lQ.out.lt;generalize W4.heap.size=base at hx6 hle hle0 qp hlw
  generalize W5.heap.size=bx at hx6 qp ⊢
  have jbH:base≤bx:=qp;have hcd1:cell (Xn s a g n).on d g=cell s.on d g:=by
   show cell (setCell s.on a g _) d g=_;rw [iQ hao hga,ah (by omega)]
  have hw1:IntKind.i64.wrap (cell s.on a g - n)=cell s.on a g - n:=bf _ (by omega)
  have hw2:IntKind.i64.wrap (cell s.on d g+n)=cell s.on d g+n:=bf _ (by omega)
  obtain ⟨zS,con,Ju,gr,cr,cur,Ip,Ri,Ia,r0,er,Rh,hbr,rc⟩:=hx6.out.own.Jr hao hga;have c0:=hx6.out.cells.1;rw [Ip] at c0
  have er':=Lib.hid er;clear Ip er Ia hbr;have m0:=lQ.out.cell (j:=0) rfl;have m1:=lQ.out.cell (j:=1) rfl;go_wp2_with fail;go_still_tail 21,(by kernel_rfl)
  change wpList _ _ _ _ _ w6.drew;refine zi rfl (.tmp 75) (.tmp 74) rfl rfl (i:=a) (g:=g) (q:=cell s.on a g - n) hx6.out.drew hao hga er'.out rfl rfl (fun w7 hx7 uP=>?_)
  refine gy ?_
  have h07:=h06.drew.trans (uP.below (B:=W0.heap.size) (fun q hq=>by omega) h06.drew.size)
  have pI:=Lib.hid (show Bx w7 base bx 31 [] V5 (Xn s a g n) from hx7)
  have OI:=Lib.hid (uP.blk (show dw w6.drew wl 48 _ from lQ.out) (by omega))
  clear hx7 uP c0 r0 rc m0 m1 hw1 hx6 h06 er' lQ;have jbx:d<(Xn s a g n).on.length:=by show d<(setCell _ _ _ _).length;rw [iY];exact hdo
  have hgd1:g<(rowAt (Xn s a g n).on d).length:=by show g<(rowAt (setCell _ _ _ _) d).length;rw [kK];exact hgd
  obtain ⟨zS,con,Ju,gr,cr,cur,Ip,Ri,Ia,r0,er,Rh,hbr,rc⟩:=pI.out.own.Jr jbx hgd1;rw [hcd1] at rc
  have c0:=pI.out.cells.1;rw [Ip] at c0
  have hl1:(Xn s a g n).on.length=s.on.length:=iY;have hl2:(rowAt (Xn s a g n).on d).length=(rowAt s.on d).length:=kK;rw [hl1] at c0
  rw [hl2] at r0
  have er':=Lib.hid er;clear Ip er Ia hbr hl1 hl2;have m0:=OI.out.cell (j:=0) rfl;have m2:=OI.out.cell (j:=2) rfl;go_wp2_with fail;go_still_tail 21,(by kernel_rfl)
  change wpList _ _ _ _ _ w7.drew;refine zi rfl (.tmp 96) (.tmp 95) rfl rfl (i:=d) (g:=g) (q:=cell s.on d g+n) pI.out.drew jbx hgd1 er'.out rfl rfl (fun w8 EF qJ=>?_)
  refine gy ?_
  have ug:=h07.drew.trans (qJ.below (B:=W0.heap.size) (fun q hq=>by omega) h07.drew.size)
  have lN:=Lib.hid (show Bx w8 base bx 31 [] V5 (mv2 s a d g n) by unfold mv2;rw [hcd1];exact EF)
  clear EF qJ c0 r0 rc m0 m2 hw2 pI h07 er' OI jbx hgd1;have OJ:=hb0.trans (ug.mono hb0.size);have joL:=(hM.out w8 OJ).at_;obtain ⟨⟨g3,o3,rfl⟩,_⟩:=joL.move hk;have hMv:=Lib.hid (show ∀ W,Below w8.heap.size w8 W→At W W.heap.size (some ⟨g3,o3,none⟩) (s.moves.flatMap gV) from fun W hW=>(hM.out W (OJ.trans (hW.mono OJ.size))).at_)
  have hlt:(s.moves.take i).length=i:=by rw [dS];omega
  have hld:(s.moves.drop (i+1)).length=s.moves.length - (i+1):=jT;have hba:Below w8.heap.size w8 (w8.alloc (.cells #[] 48)).drew:=((aj _ _).alloc (aA _) _).drew;have hown0:Own gV 4 48 (w8.alloc (.cells #[] 48)).drew w8.heap.size (.slice (some ⟨w8.heap.size,0,none⟩) 0 0) []:=(Own.QM w8 _ (aA _):Own gV 4 48 (w8.alloc (.cells #[] 48)) w8.heap.size (.slice (some ⟨w8.heap.size,0,none⟩) 0 0) []);obtain ⟨v1,w1,hr1,hown1,hg1,hb1⟩:=yF _ w8.heap.size _ [] (s.moves.take i) hown0 g3 o3 c3 _ (At.head (ys:=(s.moves.drop i).flatMap gV) (by rw [← lD,Ba];exact hMv.out _ hba)) (by rw [hlt];simp only [je];omega) hba.size
  rw [hlt] at hr1
  rw [lq] at hown1
  have h81:=hba.trans hb1;obtain ⟨A1',c1',rfl⟩:=hown1.isSlice;rw [hlt] at hr1 hown1
  have zN:∃ o7,At w1 w1.heap.size (some ⟨g3,o7,none⟩) ((s.moves.drop (i+1)).flatMap gV)∧(c3=i+1∧o7=o3∨¬ c3=i+1∧o7=o3+(i+1)*4):=by
   by_cases hcq:c3=i+1
   ·refine ⟨o3,?_,.inl ⟨hcq,rfl⟩⟩
    have:s.moves.drop (i+1)=[]:=PS (by omega)
    rw [this];exact At.nil
   ·refine ⟨o3+(i+1)*4,?_,.inr ⟨hcq,rfl⟩⟩
    have h2:=hMv.out _ h81;rw [← Ba (i+1) s.moves,lD] at h2
    have h3:=h2.tail;rwa [flat_length gV 4 (fun _=>rfl),dS,pW (by omega)] at h3
  obtain ⟨o7,hA7,zN⟩:=zN;obtain ⟨v2,w2,hr2,hown2,hg2,hb2⟩:=yF w1 w8.heap.size (.slice A1' i c1') (s.moves.take i) (s.moves.drop (i+1)) hown1 g3 o7 (c3 - (i+1)) _ hA7 (by rw [hlt,hld];omega) h81.size
  rw [hld] at hr2
  try rw [hlt] at hr2
  rw [← Ls] at hown2
  obtain ⟨NQ,c2',rfl⟩:=hown2.isSlice;have h82:=h81.trans hb2;have h01:=ug.trans (h81.mono ug.size);have h02:=ug.trans (h82.mono ug.size);have hx2:=lN.out.below h82;have hO2:=Lib.hid (show aO w2 base {V5 with moves:=.slice NQ (s.moves.eraseIdx i).length c2'} {mv2 s a d g n with moves:=s.moves.eraseIdx i} from hx2.own.QG (Pq w2 _) (hown2.from_ (by have:=lN.out.lt;omega)))
  have hbx2:=Lib.hid hx2.kW;have b3:w2.cell? ⟨bx,3,none⟩=some V5.moves:=hx2.cells.2.2.2.1;have f3:w2.frozen? ⟨bx,3,none⟩=false:=hx2.kW.blk.frozen 3;have hr1':=Lib.hid hr1;have hr2':=Lib.hid hr2;have q1:i≤c3:=by omega
  have q2:(i:Int)≤(c3:Int):=by omega
  have q3:(0:Int)≤(i:Int)+1:=by omega
  have q4:(i:Int)+1≤(s.moves.length:Int):=by omega
  have q5:((i:Int)+1).toNat=i+1:=by omega
  have q6:¬ (c3=0):=by omega
  have q7:IntKind.i64.wrap ((i:Int)+1)=(i:Int)+1:=bf _ (by omega)
  have jrh:=Lib.hid h82;obtain ⟨⟨y0,y1⟩,x0,x1,x2,x3,x4,x5,x6,aV,aW⟩:=hK.out w8 (ug);obtain ⟨⟨y01,y11⟩,x01,x11,x21,x31,x41,x51,x61,jjE,jjC⟩:=hK.out w1 (h01);obtain ⟨⟨y02,y12⟩,x02,x12,x22,x32,x42,x52,x62,jjD,jjB⟩:=hK.out w2 (h02);clear hown0 hown1 hown2 hr1 hr2 hA7 hx2 hg1 hg2 hb1 hb2 hba h81 h82 h01 joL hlt hld lN ug OJ;rcases zN with ⟨hcq,zN⟩|⟨hcq,zN⟩
  ·subst zN;have jbA:(c3=i+1)=True:=eq_true hcq;clear hcq;go_wp2_with fail;go_region_law (first|refine jv _ rfl (.tmp 97) (.tmp 101) 29 29 rfl (.slice (some ⟨w8.heap.size,0,none⟩) 0 0) (.slice (some ⟨g3,o7,none⟩) i c3) (by simp [Act.eval,Act.put]) (by simp [Act.eval,Act.put]) hr1'.out ?_|refine jv _ rfl (.tmp 102) (.tmp 107) 29 29 rfl (.slice A1' i c1') (.slice (some ⟨g3,o7,none⟩) (s.moves.length - (i+1)) (c3 - (i+1))) (by simp [Act.eval,Act.put]) (by simp [Act.eval,Act.put]) hr2'.out ?_)
   all_goals
    clear y0 y1 x0 x1 x2 x3 x4 x5 x6 aV aW;clear y01 y11 x01 x11 x21 x31 x41 x51 x61 jjE jjC;clear y02 y12 x02 x12 x22 x32 x42 x52 x62 jjD jjB;clear b3 f3 q1 q2 q3 q4 q5 q6 q7;obtain ⟨tJ,vC⟩:=Bx.set' (V:=V5) (V':={V5 with moves:=.slice NQ (s.moves.eraseIdx i).length c2'}) (s':={mv2 s a d g n with moves:=s.moves.eraseIdx i}) (rest:=[]) (by rw [mJ];exact hbx2.out.blk) hO2.out SN 3 (.slice NQ (s.moves.eraseIdx i).length c2') rfl
    have jQ:=Lib.hid (show Bx (w2.setCell ⟨bx,3,none⟩ (.slice NQ (s.moves.eraseIdx i).length c2')) base bx 31 [] {V5 with moves:=.slice NQ (s.moves.eraseIdx i).length c2'} (qH s i n) by rw [← QH MB.out];exact tJ)
    have h010:=zh h02 vC h02.size (fun k hk=>by injection hk with hk;omega)
    clear tJ vC hbx2 hO2 hr1' hr2' jbA;generalize w2.setCell ⟨bx,3,none⟩ (.slice NQ (s.moves.eraseIdx i).length c2')=w10 at jQ h010 ⊢
    have jgN:=hb0.trans (h010.mono hb0.size);generalize ({V5 with moves:=.slice NQ (s.moves.eraseIdx i).length c2'}:SV)=V9 at jQ
    have aX:=hR.out _ h010;obtain ⟨b0,b1,b2,b3,b4,b5,b6⟩:=dN.cells jQ.out.kW;have eU:=aO.one jQ.out.own;go_wp2_with (refine aK (.tmp 8) (.tmp 110) aP V9 rfl aX rfl eU (fun w9 aN dh=>?_))
    have ng:=aO.keptBy jQ.out.own dh aX (by decide) (by decide) (by decide) (by decide) (by decide) (by decide)
    have aQ:=Below.bG jgN dh;clear b0 b1 b2 b3 b4 b5 b6;go_wp2_with fail;exact dn results57 aN rfl rfl (wH hfin.out (ng.from_ hle) aQ)
  ·subst zN;have jbA:=hcq;clear hcq;go_wp2_with fail;go_region_law (first|refine jv _ rfl (.tmp 97) (.tmp 101) 29 29 rfl (.slice (some ⟨w8.heap.size,0,none⟩) 0 0) (.slice (some ⟨g3,o3,none⟩) i c3) (by simp [Act.eval,Act.put]) (by simp [Act.eval,Act.put]) hr1'.out ?_|refine jv _ rfl (.tmp 102) (.tmp 107) 29 29 rfl (.slice A1' i c1') (.slice (some ⟨g3,o3+(i+1)*4,none⟩) (s.moves.length - (i+1)) (c3 - (i+1))) (by simp [Act.eval,Act.put]) (by simp [Act.eval,Act.put]) hr2'.out ?_)
   all_goals
    clear y0 y1 x0 x1 x2 x3 x4 x5 x6 aV aW;clear y01 y11 x01 x11 x21 x31 x41 x51 x61 jjE jjC;clear y02 y12 x02 x12 x22 x32 x42 x52 x62 jjD jjB;clear b3 f3 q1 q2 q3 q4 q5 q6 q7;obtain ⟨tJ,vC⟩:=Bx.set' (V:=V5) (V':={V5 with moves:=.slice NQ (s.moves.eraseIdx i).length c2'}) (s':={mv2 s a d g n with moves:=s.moves.eraseIdx i}) (rest:=[]) (by rw [mJ];exact hbx2.out.blk) hO2.out SN 3 (.slice NQ (s.moves.eraseIdx i).length c2') rfl
    have jQ:=Lib.hid (show Bx (w2.setCell ⟨bx,3,none⟩ (.slice NQ (s.moves.eraseIdx i).length c2')) base bx 31 [] {V5 with moves:=.slice NQ (s.moves.eraseIdx i).length c2'} (qH s i n) by rw [← QH MB.out];exact tJ)
    have h010:=zh h02 vC h02.size (fun k hk=>by injection hk with hk;omega)
    clear tJ vC hbx2 hO2 hr1' hr2' jbA;generalize w2.setCell ⟨bx,3,none⟩ (.slice NQ (s.moves.eraseIdx i).length c2')=w10 at jQ h010 ⊢
    have jgN:=hb0.trans (h010.mono hb0.size);generalize ({V5 with moves:=.slice NQ (s.moves.eraseIdx i).length c2'}:SV)=V9 at jQ
    have aX:=hR.out _ h010;obtain ⟨b0,b1,b2,b3,b4,b5,b6⟩:=dN.cells jQ.out.kW;have eU:=aO.one jQ.out.own;go_wp2_with (refine aK (.tmp 8) (.tmp 110) aP V9 rfl aX rfl eU (fun w9 aN dh=>?_))
    have ng:=aO.keptBy jQ.out.own dh aX (by decide) (by decide) (by decide) (by decide) (by decide) (by decide)
    have aQ:=Below.bG jgN dh;clear b0 b1 b2 b3 b4 b5 b6;go_wp2_with fail;exact dn results57 aN rfl rfl (wH hfin.out (ng.from_ hle) aQ)
 ·have hne:(checkState p s!=0)=true:=by simpa using hc
  have hfin:=Lib.hid (UJ (k:=k) (n:=n) hc);clear hc;have aX:=hR.out _ h1;go_wp2_with (refine aK (.tmp 8) (.tmp 18) aP aP rfl aX rfl rfl (fun w9 aN dh=>?_))
  have aQ:=Below.bG hB1 dh;go_wp2_with fail;exact dn results57 aN rfl rfl (dF hfin.out aQ)
end Wh
namespace Wh
open Go Go.RowKit Go.Shelf Go.Proofs Tryz
attribute [local go_sem] au dQ dI dX
def wX (l:List Move) (b g:Int):Nat→Int
 |0=>-1
 |k+1=>if (aB l k).src=b∧(aB l k).good=g then k else wX l b g k
def J5 (l:List Move) (b g:Int):Int:=wX l b g l.length
def sG (s:State) (b g:Nat):Nat→Int
 |0=>-1
 |k+1=>if (oz s b g).is (hold s.holds k)=true then k else sG s b g k
def J6 (s:State) (b g:Nat):Int:=sG s b g s.holds.length
theorem JB (l:List Move) (b g:Int):∀ n,(wX l b g n= -1∧∀ j,j<n→¬ ((aB l j).src=b∧(aB l j).good=g))∨
  ∃ k:Nat,k<n∧wX l b g n=k∧((aB l k).src=b∧(aB l k).good=g)∧∀ j,k<j→j<n→¬ ((aB l j).src=b∧(aB l j).good=g)
 |0=>.inl ⟨rfl,fun j hj=>by omega⟩
 |n+1=>by
  by_cases h:(aB l n).src=b∧(aB l n).good=g
  ·exact .inr ⟨n,by omega,ak h,h,fun j h1 h2=>by omega⟩
  ·have e:wX l b g (n+1)=wX l b g n:=ah h;rcases JB l b g n with ⟨h1,h2⟩|⟨k,h1,h2,h3,h4⟩
   ·refine .inl ⟨by rw [e,h1],fun j hj=>?_⟩
    by_cases hjn:j=n
    ·rw [hjn];exact h
    ·exact h2 j (by omega)
   ·refine .inr ⟨k,by omega,by rw [e,h2],h3,fun j hkj hj=>?_⟩
    by_cases hjn:j=n
    ·rw [hjn];exact h
    ·exact h4 j hkj (by omega)
theorem JC (s:State) (b g:Nat):∀ n,(sG s b g n= -1∧∀ j,j<n→(oz s b g).is (hold s.holds j)=false)∨
  ∃ k:Nat,k<n∧sG s b g n=k∧(oz s b g).is (hold s.holds k)=true∧∀ j,k<j→j<n→(oz s b g).is (hold s.holds j)=false
 |0=>.inl ⟨rfl,fun j hj=>by omega⟩
 |n+1=>by
  by_cases h:(oz s b g).is (hold s.holds n)=true
  ·exact .inr ⟨n,by omega,ak h,h,fun j h1 h2=>by omega⟩
  ·have e:sG s b g (n+1)=sG s b g n:=ah h;have hf:(oz s b g).is (hold s.holds n)=false:=by simpa using h
   rcases JC s b g n with ⟨h1,h2⟩|⟨k,h1,h2,h3,h4⟩
   ·refine .inl ⟨by rw [e,h1],fun j hj=>?_⟩
    by_cases hjn:j=n
    ·rw [hjn];exact hf
    ·exact h2 j (by omega)
   ·refine .inr ⟨k,by omega,by rw [e,h2],h3,fun j hkj hj=>?_⟩
    by_cases hjn:j=n
    ·rw [hjn];exact hf
    ·exact h4 j hkj (by omega)
theorem jdk (w:World) (vs:Value) (p:Plan) (s:State) (b g:Int) (hv:fE w w.heap.size vs s) (hs:iI p s):
  Calls prog 71 #[vs,.int .i64 b,.int .i64 g] w fun e w'=>e=.returned (.int .i64 (J5 s.moves b g))∧Below w.heap.size w w':=by
 have h8:=hs.lJ;obtain ⟨A0,c0,A1,c1,A2,c2,A3,c3,A4,c4,A5,c5,A6,c6,rfl,hV,hN,hO,hH,hM,hI,hU,hX,hl0,hl1,hl2,hl3,hl4,hl5,CW⟩:=iG hv;go_enter func71,ntmps71
 go_wp2_with fail;obtain ⟨W0,hW0,hb0,hsz0,hsz1,hsE,hK⟩:=ES w s A0 c0 A1 c1 A2 c2 A3 c3 A4 c4 A5 c5 A6 c6;rw [hW0];clear hW0;obtain ⟨⟨y0,y1⟩,x0,x1,x2,x3,x4,x5,x6,aV,aW⟩:=hK.out W0 (aj W0.heap.size W0);go_wp2_with fail;clear y0 y1 x0 x1 x2 x3 x4 x5 x6 aV aW;go_loopw [7] (fun i wr=>∃ k:Nat,k≤s.moves.length∧i=.int .i64 ((k:Int) - 1)∧J5 s.moves b g=wX s.moves b g k∧Below W0.heap.size W0 wr) (fun i _=>(RowKit.intOf i+1).toNat)
 case atStart=>exact ⟨s.moves.length,aA _,rfl,rfl,aj _ _⟩
 case round=>
  obtain ⟨k,hk,rfl,hl,h0r⟩:=hrel;have hBr:=hb0.trans (h0r.mono hb0.size);have hl':=Lib.hid hl;clear hl;obtain ⟨⟨y0,y1⟩,x0,x1,x2,x3,x4,x5,x6,aV,aW⟩:=hK.out wr (h0r);rcases k with _|m
  ·go_wp2_with fail;go_ret
   exact ⟨by rw [hl'.out];rfl,hBr⟩
  ·have e1:(((m+1:Nat):Int) - 1)=(m:Int):=by omega
   rw [e1];have hm:m<s.moves.length:=by omega
   have hmi:(m:Int)<(s.moves.length:Int):=by omega
   obtain ⟨okm,lm,f0,f1,f2,f3⟩:=(hM.out wr hBr).at_.move hm;by_cases h1:(aB s.moves m).src=b
   ·by_cases h2:(aB s.moves m).good=g
    ·have t1:((aB s.moves m).src==b)=true:=by simpa using h1
     have t2:((aB s.moves m).good==g)=true:=by simpa using h2
     have hx:=Lib.hid (show J5 s.moves b g=(m:Int) by rw [hl'.out];exact ak ⟨h1,h2⟩)
     clear h1 h2;go_wp2_with fail;go_ret
     exact ⟨by rw [hx.out];rfl,hBr⟩
    ·have t1:((aB s.moves m).src==b)=true:=by simpa using h1
     have t2:((aB s.moves m).good==g)=false:=by simpa using h2
     have hx:=Lib.hid (show J5 s.moves b g=wX s.moves b g m by rw [hl'.out];exact ah (fun h=>h2 h.2))
     clear h1 h2;go_wp2_with fail;clear y0 y1 x0 x1 x2 x3 x4 x5 x6 aV aW;go_roundw
     case rel=>exact ⟨m,by omega,by go_num,hx.out,h0r⟩
     case measure=>simp [RowKit.intOf]
   ·have t1:((aB s.moves m).src==b)=false:=by simpa using h1
    have hx:=Lib.hid (show J5 s.moves b g=wX s.moves b g m by rw [hl'.out];exact ah (fun h=>h1 h.1))
    clear h1;go_wp2_with fail;clear y0 y1 x0 x1 x2 x3 x4 x5 x6 aV aW;go_roundw
    case rel=>exact ⟨m,by omega,by go_num,hx.out,h0r⟩
    case measure=>simp [RowKit.intOf]
theorem jdl (w:World) (vs:Value) (p:Plan) (s:State) (b g:Nat) (hv:fE w w.heap.size vs s) (hs:iI p s):
  Calls prog 72 #[vs,.int .i64 b,.int .i64 g] w fun e w'=>e=.returned (.int .i64 (J6 s b g))∧Below w.heap.size w w':=by
 have hs':=Lib.hid hs;obtain ⟨A0,c0,A1,c1,A2,c2,A3,c3,A4,c4,A5,c5,A6,c6,rfl,hV,hN,hO,hH,hM,hI,hU,hX,hl0,hl1,hl2,hl3,hl4,hl5,CW⟩:=iG hv;go_enter func72,ntmps72
 go_wp2_with fail;obtain ⟨W0,hW0,hb0,hsz0,hsz1,hsE,hK⟩:=ES w s A0 c0 A1 c1 A2 c2 A3 c3 A4 c4 A5 c5 A6 c6;rw [hW0];clear hW0;obtain ⟨⟨y0,y1⟩,x0,x1,x2,x3,x4,x5,x6,aV,aW⟩:=hK.out W0 (aj W0.heap.size W0);go_wp2_with fail;clear y0 y1 x0 x1 x2 x3 x4 x5 x6 aV aW;clear hs;go_loopw [7,8] (fun i _ wr=>∃ k:Nat,k≤s.holds.length∧i=.int .i64 ((k:Int) - 1)∧J6 s b g=sG s b g k∧Below W0.heap.size W0 wr) (fun i _ _=>(RowKit.intOf i+1).toNat)
 case atStart=>exact ⟨s.holds.length,aA _,rfl,rfl,aj _ _⟩
 case round=>
  obtain ⟨k,hk,rfl,hl,h0r⟩:=hrel;have hBr:=hb0.trans (h0r.mono hb0.size);have hl':=Lib.hid hl;clear hl;obtain ⟨⟨y0,y1⟩,x0,x1,x2,x3,x4,x5,x6,aV,aW⟩:=hK.out wr (h0r);rcases k with _|m
  ·go_wp2_with fail;go_ret
   exact ⟨by rw [hl'.out];rfl,hBr⟩
  ·have e1:(((m+1:Nat):Int) - 1)=(m:Int):=by omega
   rw [e1];have hm:m<s.holds.length:=by omega
   have hmi:(m:Int)<(s.holds.length:Int):=by omega
   obtain ⟨okm,lm,f0,f1,f2,f3⟩:=(hH.out wr hBr).at_.hold hm;have hat:=hs'.out.oP hm;obtain ⟨o,eo⟩:∃ o:Nat,(hold s.holds m).order=o:=⟨(hold s.holds m).order.toNat,by omega⟩
   obtain ⟨l,el⟩:∃ l:Nat,(hold s.holds m).line=l:=⟨(hold s.holds m).line.toNat,by omega⟩
   have his:=wB (s:=s) (b:=(b:Int)) (g:=(g:Int)) (x:=hold s.holds m);rw [eo,el] at his hat
   simp only [eH] at his hat
   have ho:o<s.orders.length:=by omega
   have hlo:l<(s.order o).lines.length:=by omega
   have hoi:(o:Int)<(s.orders.length:Int):=by omega
   have hloi:(l:Int)<((ay s.orders o).lines.length:Int):=by show (l:Int)<((s.order o).lines.length:Int);omega
   have WG:=Lib.hid his;rw [eo] at f0
   rw [el] at f1
   clear his hat eo el;generalize (hold s.holds m).bin=bn at f2 WG
   generalize (hold s.holds m).n=n at f3
   have hpt:sG s b g (m+1)=if (oz s b g).is (hold s.holds m)=true then (m:Int) else sG s b g m:=rfl
   have jkE:=Lib.hid hpt;clear hpt;have h2a:=h0r.alloc h0r.size (.cells #[.int .i64 o,.int .i64 l,.int .i64 bn,.int .i64 n] 46);have hbl:=Lib.hid (dw.new wr 46 #[.int .i64 o,.int .i64 l,.int .i64 bn,.int .i64 n]);go_wp2_with fail;clear y0 y1 x0 x1 x2 x3 x4 x5 x6 aV aW;clear f0 f1 f2 f3 okm lm;generalize wr.alloc (.cells #[.int .i64 o,.int .i64 l,.int .i64 bn,.int .i64 n] 46)=W4 at h2a hbl ⊢
   generalize wr.heap.size=hx at hbl ⊢
   have hB4:=hb0.trans (h2a.mono hb0.size);obtain ⟨Al,cl,ol,ll,d0,d1,hsl⟩:=(hO.out W4 hB4).order ho;obtain ⟨ok2,l2,e0,e1',e2,e3⟩:=hsl.at_.line hlo;change W4.cell? _=some (.int .i64 (s.line o l).good) at e0
   have x0':=hbl.out.cell (j:=0) rfl;have x1':=hbl.out.cell (j:=1) rfl;have x2':=hbl.out.cell (j:=2) rfl;have x3':=hbl.out.cell (j:=3) rfl;have tx:=hbl.out.lt;obtain ⟨⟨y0,y1⟩,x0,x1,x2,x3,x4,x5,x6,aV,aW⟩:=hK.out W4 (h2a);by_cases h1:bn=(b:Int)
   ·by_cases h2:(s.line o l).good=(g:Int)
    ·have t1:(bn==(b:Int))=true:=by simpa using h1
     have t2:((s.line o l).good==(g:Int))=true:=by simpa using h2
     have hr:=Lib.hid (show J6 s b g=(m:Int) by rw [hl'.out,jkE.out,ak (WG.out.2 ⟨h1,h2⟩)])
     clear h1 h2;go_wp2_with fail;go_quiet (fail)
     have h4q:=below_drewN hB4 nq;go_wp2_with fail;go_ret
     exact ⟨by rw [hr.out];rfl,h4q⟩
    ·have t1:(bn==(b:Int))=true:=by simpa using h1
     have t2:((s.line o l).good==(g:Int))=false:=by simpa using h2
     have hr:=Lib.hid (show J6 s b g=sG s b g m by rw [hl'.out,jkE.out,ah (fun h=>h2 (WG.out.1 h).2)])
     clear h1 h2;go_wp2_with fail;go_quiet (fail)
     have h4q:=below_drewN h2a nq;go_wp2_with fail;clear y0 y1 x0 x1 x2 x3 x4 x5 x6 aV aW;clear d0 d1 e0 e1' e2 e3 x0' x1' x2' x3' ol ll ok2 l2 hsl;go_roundw
     case rel=>exact ⟨m,by omega,by go_num,hr.out,h4q⟩
     case measure=>simp [RowKit.intOf]
   ·have t1:(bn==(b:Int))=false:=by simpa using h1
    have hr:=Lib.hid (show J6 s b g=sG s b g m by rw [hl'.out,jkE.out,ah (fun h=>h1 (WG.out.1 h).1)])
    clear h1;go_wp2_with fail;go_quiet (fail)
    have h4q:=below_drewN h2a nq;go_wp2_with fail;clear y0 y1 x0 x1 x2 x3 x4 x5 x6 aV aW;clear d0 d1 e0 e1' e2 e3 x0' x1' x2' x3' ol ll ok2 l2 hsl;go_roundw
    case rel=>exact ⟨m,by omega,by go_num,hr.out,h4q⟩
    case measure=>simp [RowKit.intOf]
end Wh
namespace Wh
open Go Go.RowKit Go.Shelf Go.Proofs Tryz
section
variable {ops:Array Oper} {rest:List Oper} {o:Oper} {a:Act} {w:World} {Q:Exit→Act→World→Prop} {base b:Nat} {t:TypeId} {cs:List Value} {V:SV} {s:State}
theorem X3 (hgd:o.guard=none) (x z:Operand) (ho:o.op=.store 3 x z) (hn:o.dst=none) {k gm n c:Nat} {q:Int} (hB:Bx w base b t cs V s) (hk:k<s.moves.length)
  (hv:V.moves=.slice (some ⟨gm,0,none⟩) n c) (ht:48≠t) (hx:a.eval x=.pointer (some ⟨gm,k*4+3,none⟩)) (hz:a.eval z=.int .i64 q)
  (h:∀ w',Bx w' base b t cs V {s with moves:=s.moves.set k {aB s.moves k with n:=q}}→Step (·=gm) w w'→wpList prog ops Q rest a w'):wpList prog ops Q (o::rest) a w:=
 lV hgd fun K hK=>by
  obtain ⟨g',c',cur,e1,_,e3,f0,f1,f2,f3⟩:=hB.own.aB hk;rw [hv] at e1
  injection e1 with e1
  injection e1 with e1
  injection e1 with e1
  subst e1;have hm:=hB.own.moves;rw [hv] at hm
  obtain ⟨h1,h2⟩:=Own.store hm (fun _=>rfl) (i:=k) hk (show 3<4 by omega) (y:={aB s.moves k with n:=q}) (u:=.int .i64 q) (by rw [iM hk];rfl)
  rw [← hv] at h1
  have h4:aO (w.setCell ⟨gm,k*4+3,none⟩ (.int .i64 q)) base V {s with moves:=s.moves.set k {aB s.moves k with n:=q}}:=hB.own.BA (by rw [hv];exact h2) h1
  have h3:=h _ ⟨hB.off e3 ht h2,h4,hB.ty⟩ (.dG h2 fun k hk=>by injection hk with hk;exact hk.symm)
  have hf:=e3.frozen (k*4+3);clear h hB h1 h2 h4 f0 f1 f2 e3 hm;unfold Oper.wp;simp only [execOp,ho,hx,hz];go_simp
  exact hK _ _ h3
end
theorem Own.cap {α:Type} {enc:α→List Value} {size:Nat} {e:TypeId} {w:World} {base:Nat} {A:Option Addr} {n c:Nat} {l:List α} (h:Own enc size e w base (.slice A n c) l):n≤c:=by
 obtain ⟨A',c',hv⟩:=h.isSlice;injection hv with _ e2 _
 rcases h.2 with ⟨h1,h2⟩|⟨g,cap,cur,h1,_,_,h4,_⟩
 ·injection h1 with _ h1 _
  omega
 ·injection h1 with _ h1 h5
  omega
theorem OE {l:List Move} {k:Nat} (hk:k<l.length) (y:Move):aB (l.set k y) k=y:=by
 rw [iM (by rw [pY];exact hk),Gx]
theorem DC {α:Type}:∀ (l:List α) (k:Nat) (y:α),(l.set k y).eraseIdx k=l.eraseIdx k
 |[],_,_=>rfl
 |_::_,0,_=>rfl
 |x::r,k+1,y=>by
  show x::((r.set k y).eraseIdx k)=x::r.eraseIdx k;rw [DC r k y]
def oG (s:State) (b g:Nat) (t:Int):List Value:=(List.range 12).map fun q:Nat=>.int .i64 (jD s b g t (q / 3:Nat) (q%3:Nat))
section
variable {p:Plan} {s:State} {b g:Nat} {t:Int}
theorem Ub (hs:iI p s):oG s b g 0=[.int .i64 0,.int .i64 0,.int .i64 0,.int .i64 0,.int .i64 0,.int .i64 0,.int .i64 0,.int .i64 0,.int .i64 0,.int .i64 0,.int .i64 0,.int .i64 0]:=by
 unfold oG;rw [show (List.range 12).map (fun q:Nat=>Value.int .i64 (jD s b g 0 (q / 3:Nat) (q%3:Nat)))=(List.range 12).map (fun _=>Value.int .i64 0) from Ef fun q _=>by rw [U9 hs]]
 rfl
theorem DZ (h:∀ o k:Int,jD s b g (t+1) o k=jD s b g t o k):oG s b g (t+1)=oG s b g t:=by
 unfold oG;simp only [h]
theorem Iz {o k:Nat} (ho:o<4) (hk:k<3):(oG s b g t)[o*3+k]?=some (.int .i64 (jD s b g t o k)):=by
 unfold oG;have h:o*3+k<12:=by omega
 have e1:(o*3+k) / 3=o:=by omega
 have e2:(o*3+k)%3=k:=by omega
 rw [qc,Bl h]
 simp only [pq,e1,e2]
theorem Uc {a c:Nat} (hc:c<3) (h:∀ o k:Nat,jD s b g (t+1) o k=jD s b g t o k+if o=a∧k=c then 1 else 0):oG s b g (t+1)=(oG s b g t).set (a*3+c) (.int .i64 (jD s b g t a c+1)):=by
 unfold oG;apply wM
 ·simp
 ·intro q h1 h2;have hq:q<12:=by simpa using h1
  rw [PK];simp only [PL,List.getElem_range];rw [h];by_cases he:a*3+c=q
  ·have e1:q / 3=a:=by omega
   have e2:q%3=c:=by omega
   rw [ak he,e1,e2,ak ⟨rfl,rfl⟩]
  ·rw [ah he,ah (by omega),mM]
end
def ctO (p:Plan) (s:State) (b g:Nat) (seen:Int) (q:Nat):State:=qM p b (fun o k=>jD s b g (over s b g seen) o k) q (mV s b g seen (over s b g seen))
def O9 (p:Plan) (s:State) (b g:Nat) (seen:Int) (q k:Nat):State:=oZ p q b (fun k=>jD s b g (over s b g seen) q k) k (ctO p s b g seen q)
section
variable {p:Plan} {s:State} {b g q:Nat} {seen:Int}
theorem ZO (hc:checkState p s=0) (f:Counts p s b g seen) (hq:q≤s.orders.length):CY p b (fun o' _=>o'<q) (mV s b g seen (over s b g seen)) (ctO p s b g seen q):=by
 have h:=cO hc;have hcut:=cO (EM hc f);exact uZ hcut (fun o k ho hk=>by
  rw [kQ] at ho
  rw [jG o ho] at hk
  exact Jj h ho hk) _ (by rw [kQ];exact hq)
theorem Jl (hc:checkState p s=0) (f:Counts p s b g seen) (hq:q≤s.orders.length):Right p (ctO p s b g seen q)∧(ctO p s b g seen q).orders.length=s.orders.length∧∀ o,o<s.orders.length→((ctO p s b g seen q).order o).lines.length=(s.order o).lines.length:=by
 have h:=ZO hc f hq;exact ⟨h.right,by rw [h.orders,kQ],fun o ho=>by rw [h.lines,jG o ho]⟩
theorem Vd (hc:checkState p s=0) (f:Counts p s b g seen) (hq:q<s.orders.length) {k:Nat} (hk:k<(s.order q).lines.length):jD s b g (over s b g seen) q k=0∨May (ctO p s b g seen q) q k (jD s b g (over s b g seen) q k):=
 (ZO hc f (nD hq)).may (by omega) (Jj (cO hc) hq hk)
theorem ZP (hc:checkState p s=0) (f:Counts p s b g seen) (hq:q<s.orders.length) {k:Nat} (hk:k≤(s.order q).lines.length):CY p b (fun o' k'=>o'=q∧k'<k) (ctO p s b g seen q) (O9 p s b g seen q k):=by
 obtain ⟨h1,_,h3⟩:=Jl hc f (nD hq);exact CJ (b:=b) (o:=q) h1 (fun k hk=>Vd hc f hq (by rw [← h3 q hq];exact hk)) k (by rw [h3 q hq];exact hk)
theorem jd4 (hc:checkState p s=0) (f:Counts p s b g seen) (hq:q<s.orders.length) {k:Nat} (hk:k≤(s.order q).lines.length):Right p (O9 p s b g seen q k)∧(O9 p s b g seen q k).orders.length=s.orders.length∧∀ o,o<s.orders.length→((O9 p s b g seen q k).order o).lines.length=(s.order o).lines.length:=by
 obtain ⟨_,h2,h3⟩:=Jl hc f (nD hq);have h:=ZP hc f hq hk;exact ⟨h.right,by rw [h.orders,h2],fun o ho=>by rw [h.lines,h3 o ho]⟩
theorem jiV (hc:checkState p s=0) (f:Counts p s b g seen) (hq:q<s.orders.length) {k:Nat} (hk:k<(s.order q).lines.length) (hn:0<jD s b g (over s b g seen) q k):May (O9 p s b g seen q k) q k (jD s b g (over s b g seen) q k):=
 ((ZP hc f hq (nD hk)).may (by omega) (Vd hc f hq hk)).resolve_left (by omega)
theorem jg7 {k:Nat} (hn:¬ 0<jD s b g (over s b g seen) q k):O9 p s b g seen q (k+1)=O9 p s b g seen q k:=by
 show (ji p (O9 p s b g seen q k) q k (jD s b g (over s b g seen) q k) b).1=_;have:ji p (O9 p s b g seen q k) q k (jD s b g (over s b g seen) q k) b=(O9 p s b g seen q k,jD s b g (over s b g seen) q k):=Dc (by omega)
 rw [this]
theorem jiW (hc:checkState p s=0) (f:Counts p s b g seen) (hq:q<s.orders.length):O9 p s b g seen q (s.order q).lines.length=ctO p s b g seen (q+1):=by
 show _=oZ p q b _ ((ctO p s b g seen q).order q).lines.length (ctO p s b g seen q);rw [(Jl hc f (nD hq)).2.2 q hq];rfl
theorem jiT:ctO p s b g seen s.orders.length=zL p s b g seen:=rfl
end
end Wh
