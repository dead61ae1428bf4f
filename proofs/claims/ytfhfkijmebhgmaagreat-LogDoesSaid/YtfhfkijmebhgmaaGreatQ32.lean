/- Texts of the claim, joined. -/
import Derived.Test.YtfhfkijmebhgmaaGreatQ31
set_option maxHeartbeats 20000000
set_option maxRecDepth 100000
namespace Wh
open Go Go.RowKit Go.Maps Go.Sort Go.Shelf Go.Proofs Tryz
section
variable {p:Plan} {s s1:State} {i j:Nat} {D:DataW Unit} {l:List Hold}
def YV (D:DataW Unit) (q:Nat):Bool:=has D (Fq (q:Int))
def dW (s:State) (D:DataW Unit):List Nat:=(List.range (s.orders.length*3)).filter (YV D)
theorem jh3 (hs:iI p s) (h:lS s1 i j l 0 D) (h1:s1.holds=s.holds) (x:Int):has D (Fq x)=true↔∃ q:Nat,q<s.orders.length*3∧YV D q=true∧x=q:=by
 constructor
 ·intro hx;obtain ⟨a,ha,_,_,he⟩:=(h.keys x).1 hx;simp only [h1] at ha he
  have:=hs.oP ha;rw [bV ha] at this
  obtain ⟨⟨a1,a2⟩,⟨a3,a4⟩,_⟩:=this;have hf:=(gG.1 ((bC.1 hs.holds).1 _ (eF ha))).1;unfold jL at hf
  obtain ⟨q,rfl⟩:∃ q:Nat,x=q:=⟨x.toNat,by omega⟩
  exact ⟨q,by omega,hx,rfl⟩
 ·rintro ⟨q,_,h2,rfl⟩;exact h2
theorem YS (hs:iI p s) (h:lS s1 i j l 0 D) (h1:s1.holds=s.holds) {w:World} {R:Value→Option (DataW Unit×List MemPlace)} {mb nn:Nat} (hown:w.ownsMap prog 3 R mb nn D) {ss:List Int} (hp:ss.Perm (intKeys D)):
  ss.mergeSort (fun x y=>decide (x≤y))=oq (dW s D):=by
 obtain ⟨es,rfl,hpw,_⟩:=hown.entries Wp;obtain ⟨es',he,hko⟩:=hown.keysOf;obtain rfl:es=es':=by injection he
 have hpl:(dW s (.map es)).Pairwise (·<·):=LH _ PE
 have hnn:(oq (dW s (.map es))).Nodup:=by
  unfold oq;rw [List.Nodup,Bg];exact hpl.imp fun h=>by omega
 have hm:∀ x:Int,x∈oq (dW s (.map es))↔has (.map es) (Fq x)=true:=fun x=>by
  rw [jh3 hs h h1 x];unfold oq dW;simp only [qO,qP,lu];constructor
  ·rintro ⟨q,⟨h1,h2⟩,rfl⟩;exact ⟨q,h1,h2,rfl⟩
  ·rintro ⟨q,h1,h2,rfl⟩;exact ⟨q,⟨h1,h2⟩,rfl⟩
 have hperm:=perm_intKeys hpw (fun p hp=>by obtain ⟨v,hv⟩:=hko p hp;obtain ⟨x,_,hx,_⟩:=Maps.keyOf_i64 underlying3 hv;exact ⟨x,hx⟩) hnn hm
 have tr:∀ a b c:Int,decide (a≤b)=true→decide (b≤c)=true→decide (a≤c)=true:=fun a b c h1 h2=>by simp only [dR] at*;omega
 have to:∀ a b:Int,(decide (a≤b)||decide (b≤a))=true:=fun a b=>by simp only [mO,dR];omega
 refine List.Perm.eq_of_pairwise (le:=fun a b=>decide (a≤b)=true) (fun a b _ _ h1 h2=>by simp only [dR] at h1 h2;omega) (List.pairwise_mergeSort tr to ss) (by
  unfold oq;rw [Bg];exact hpl.imp fun h=>by simp only [dR];omega) ((List.mergeSort_perm ss _).trans (hp.trans hperm.symm))
theorem jfh {v:Int} (hs:iI p s) (h:lS s1 i j l 0 D) (h1:s1.holds=s.holds) (h2:oz s1 i j=oz s i j) {q:Nat} (hq:YV D q=false):jD s i j v ((q / 3:Nat):Int) ((q%3:Nat):Int)=0:=by
 have hr:=sU hs i j v ((q / 3:Nat):Int) ((q%3:Nat):Int);by_cases h0:aF s.holds ((q / 3:Nat):Int) ((q%3:Nat):Int) i=0
 ·omega
 ·obtain ⟨_,hmem⟩:=sN (bC.1 hs.holds).1 (bC.1 hs.holds).2 h0;by_cases hg:(s.line (q / 3) (q%3)).good=j
  ·obtain ⟨a,ha,hae⟩:=cZ hmem;have:YV D q=true:=(h.keys (q:Int)).2 ⟨a,by rw [h1];exact ha,aT _,by
    simp only [h1,h2,hae];exact wB.2 ⟨rfl,by show (s.line ((q / 3:Nat):Int).toNat ((q%3:Nat):Int).toNat).good=_;rw [eH,eH];exact hg⟩,by
    simp only [h1,hae];omega⟩
   rw [hq] at this
   cases this
  ·have:=(FP hs i j v ((q / 3:Nat):Int) ((q%3:Nat):Int) i).2 (fun hh=>hg (by have:=hh.2;rw [eH,eH] at this;exact this))
   unfold jD;omega
theorem YU {seen v:Int} (hc:checkState p s=0) (h:lS s1 i j l 0 D) (h1:s1.holds=s.holds) (h2:oz s1 i j=oz s i j) {q:Nat} (hq:YV D q=true):
  May (mV s i j seen v) (q / 3) (q%3) (jD s i j v ((q / 3:Nat):Int) ((q%3:Nat):Int)):=by
 have hr0:=cO hc;have hs:=hr0.sane;obtain ⟨a,ha,_,hi,he⟩:=(h.keys (q:Int)).1 hq;simp only [h1,h2] at ha hi he
 have hh:=hs.oP ha;rw [bV ha] at hh
 obtain ⟨⟨a1,a2⟩,⟨a3,a4⟩,_⟩:=hh;have hfa:=gG.1 ((bC.1 hs.holds).1 _ (eF ha));have hf:=hfa.1;unfold jL at hf
 have e1:s.holds[a].order=((q / 3:Nat):Int):=by omega
 have e2:s.holds[a].line=((q%3:Nat):Int):=by omega
 have e3:=(wB.1 hi).1;rw [e1] at a2 a4
 rw [e2] at a4
 simp only [eH] at a4
 have ho:q / 3<s.orders.length:=by omega
 have hk:q%3<(s.order (q / 3)).lines.length:=by omega
 have hka:=tH (BU hs.holds) ha;rw [e1,e2,e3] at hka
 have hkk:=Dt hs.holds ((q / 3:Nat):Int) ((q%3:Nat):Int) i;have hr:=sU hs i j v ((q / 3:Nat):Int) ((q%3:Nat):Int);have h5:=hr0.qI ho hk;have h3:=hs.line ho hk;have h4:=hs.kind ho;have h6:(s.order (q / 3)).kind≠0:=fun e=>by rw [ak e] at h5;omega
 have h7:(s.order (q / 3)).kind≠2:=fun e=>h5.2 ⟨e,by omega⟩
 refine ⟨by rw [kQ];exact ho,by rw [jG _ ho];exact hk,by rw [EL _ ho];omega,hr.1,?_⟩
 rw [uQ ho hk];simp only;omega
theorem jh1 {v:Int} (h:lS s1 i j (iT s i j v) 0 D) (h1:s1.holds=s.holds) {q:Nat} (hq:YV D q=true) (z:DataW Unit):D.atKey (Fq (q:Int)) z=.lit (.int .i64 (jD s i j v ((q / 3:Nat):Int) ((q%3:Nat):Int))):=by
 have e:(q:Int)=((q / 3:Nat):Int)*3+((q%3:Nat):Int):=by omega
 have hq':has D (Fq (((q / 3:Nat):Int)*3+((q%3:Nat):Int)))=true:=by rw [← e];exact hq
 have:=h.vals (q / 3) (q%3) (by omega) hq' z
 rw [← e] at this
 rw [this,h1];rfl
def Hu (p:Plan) (s:State) (i j:Nat) (n:Int) (D:DataW Unit) (q:Nat):State:=JL p i (fun o k=>jD s i j (over s i j n) o k) ((dW s D).take q) (mV s i j n (over s i j n))
theorem QU {n:Int} {q:Nat} (hq:q<(dW s D).length):Hu p s i j n D (q+1)=(ji p (Hu p s i j n D q) ((dW s D)[q] / 3) ((dW s D)[q]%3) (jD s i j (over s i j n) (((dW s D)[q] / 3:Nat):Int) (((dW s D)[q]%3:Nat):Int)) i).1:=by
 unfold Hu;rw [l9 hq,FQ];rfl
theorem jcF {a b:Nat} (ha:a<b) (hb:b<(dW s D).length):(dW s D)[a]<(dW s D)[b]:=by
 have hpl:(dW s D).Pairwise (·<·):=LH _ PE
 exact uF.1 hpl a b (by omega) hb ha
theorem Wu {q:Nat} (hq:q<(dW s D).length):YV D (dW s D)[q]=true∧(dW s D)[q]<s.orders.length*3:=by
 have:=qP.1 (eF hq);exact ⟨this.2,lu.1 this.1⟩
theorem YT {n:Int} (hc:checkState p s=0) (f:Counts p s i j n) (h:lS s1 i j l 0 D) (h1:s1.holds=s.holds) (h2:oz s1 i j=oz s i j):
  ∀ q,q≤(dW s D).length→CY p i (fun o k=>∃ r,∃ hr:r<(dW s D).length,r<q∧o=(dW s D)[r] / 3∧k=(dW s D)[r]%3) (mV s i j n (over s i j n)) (Hu p s i j n D q)
 |0,_=>by
  unfold Hu;rw [eG];exact CY.refl (cO (EM hc f))
 |q+1,hq=>by
  have t:=YT hc f h h1 h2 q (by omega)
  have hm:=YU (seen:=n) (v:=over s i j n) hc h h1 h2 (Wu (show q<(dW s D).length by omega)).1
  rw [QU (by omega)]
  refine (t.trans (CY.one t.right (t.may ?_ (.inr hm)))).mono ?_
  ·rintro ⟨r,hr,hrq,e1,e2⟩;have:=jcF (s:=s) (D:=D) hrq (by omega)
   omega
  ·rintro o k (⟨r,hr,hrq,e1,e2⟩|⟨e1,e2⟩)
   ·exact ⟨r,hr,by omega,e1,e2⟩
   ·exact ⟨q,by omega,by omega,e1,e2⟩
theorem jh2 {n:Int} (hc:checkState p s=0) (f:Counts p s i j n) (h:lS s1 i j l 0 D) (h1:s1.holds=s.holds) (h2:oz s1 i j=oz s i j) {q:Nat} (hq:q<(dW s D).length):
  Right p (Hu p s i j n D q)∧May (Hu p s i j n D q) ((dW s D)[q] / 3) ((dW s D)[q]%3) (jD s i j (over s i j n) (((dW s D)[q] / 3:Nat):Int) (((dW s D)[q]%3:Nat):Int)):=by
 have t:=YT hc f h h1 h2 q (by omega)
 have hm:=YU (seen:=n) (v:=over s i j n) hc h h1 h2 (Wu hq).1;refine ⟨t.right,by rw [t.orders];exact hm.ho,by rw [t.lines];exact hm.hk,by rw [t.kind];exact hm.kind,hm.n0,?_⟩
 rw [t.back]
 ·exact hm.back
 ·rintro ⟨r,hr,hrq,e1,e2⟩;have:=jcF (s:=s) (D:=D) hrq hq;omega
theorem jdv {n:Int} (hc:checkState p s=0) (f:Counts p s i j n) (h:lS s1 i j l 0 D) (h1:s1.holds=s.holds) (h2:oz s1 i j=oz s i j):Hu p s i j n D (dW s D).length=zL p s i j n:=by
 have hr:=cO hc;have hcut:=cO (EM hc f);have hlen:(mV s i j n (over s i j n)).orders.length=s.orders.length:=kQ;unfold Hu dW;rw [jE,Xb (YV D) (fun q hq=>jfh hr.sane h h1 h2 hq)]
 unfold zL;rw [← hlen];refine Va (fun o ho=>(hcut.sane.jX ho).2) (fun o k hk=>?_) (fun m o hm=>?_) _ (aA _)
 ·have hn:=sU hr.sane i j (over s i j n) (o:Int) (k:Int);by_cases h0:aF s.holds (o:Int) (k:Int) i=0
  ·omega
  ·obtain ⟨_,hmem⟩:=sN (bC.1 hr.sane.holds).1 (bC.1 hr.sane.holds).2 h0;obtain ⟨a,ha,hae⟩:=cZ hmem;have hh:=hr.sane.oP ha;rw [bV ha,hae] at hh
   simp only [eH] at hh
   obtain ⟨⟨a1,a2⟩,⟨a3,a4⟩,_⟩:=hh;rw [jG o (by omega)] at hk
   omega
 ·exact (uZ (b:=i) hcut (fun o k ho hk=>by
   rw [kQ] at ho
   rw [jG o ho] at hk
   exact Jj hr ho hk) m hm).lines o
end
end Wh
namespace Wh
open Go Go.RowKit Go.Shelf Go.Proofs Go.Maps Tryz
attribute [local go_sem] au dQ dI dX
def KO (B:Nat) (bn g v:Int) (s:State) (b:Nat) (w:World):Prop:=∃ (V:SV) (mb:Nat),Bx w B b 95 (xu bn g v (.map (some mb))) V s∧B≤b∧B≤mb∧w.ownsMap prog 3 (plainElem (H:=Unit) prog 3) mb 0 (.map [])
theorem jiY (w:World) (v vs:Value) (p:Plan) (s:State) (b g n:Int) (hp:fZ w w.heap.size v p) (hv:fE w w.heap.size vs s):
  Calls prog 20 #[v,vs,.int .i64 b,.int .i64 g,.int .i64 n] w (gU (count p s b g n) w):=by
 obtain ⟨Ab,cb,As,cs,rfl,hP',hBn,hSz,hlb,hls⟩:=kN hp;obtain ⟨A0,c0,A1,c1,A2,c2,A3,c3,A4,c4,A5,c5,A6,c6,rfl,hV,hN,hO,hH,hM,hI,hU,hX,hl0,hl1,hl2,hl3,hl4,hl5,CW⟩:=iG hv;go_enter func20,ntmps20
 go_wp2_with fail;obtain ⟨W0,hW0,hb0,hsz0,hsz1,hsE,hK,hR⟩:=oH w p s Ab cb As cs A0 c0 A1 c1 A2 c2 A3 c3 A4 c4 A5 c5 A6 c6;rw [hW0];clear hW0;obtain ⟨⟨y0,y1⟩,x0,x1,x2,x3,x4,x5,x6,aV,aW⟩:=hK.out W0 (aj W0.heap.size W0);go_wp2_with fail;clear y0 y1 x0 x1 x2 x3 x4 x5 x6 aV aW;refine (G8 _ _ _ p s (hP'.out _ hb0) (hV.out _ hb0)).mono ?_
 rintro e W1 ⟨rfl,h1⟩;have hB1:=hb0.trans (h1.mono hb0.size);obtain ⟨⟨y0,y1⟩,x0,x1,x2,x3,x4,x5,x6,aV,aW⟩:=hK.out W1 (h1);by_cases hc:checkState p s=0
 ·have hc':=Lib.hid hc;have hsn:=Lib.hid (dV.1 hc).1;rw [hc];clear hc;go_wp2_with fail;clear y0 y1 x0 x1 x2 x3 x4 x5 x6 aV aW;refine (Dh _ _ p b g (hP'.out _ hB1)).mono ?_
  rintro e W2 ⟨rfl,h2⟩;have h02:=h1.trans (h2.mono h1.size);have hB2:=hb0.trans (h02.mono hb0.size);clear h2 h1 hB1;obtain ⟨⟨y0,y1⟩,x0,x1,x2,x3,x4,x5,x6,aV,aW⟩:=hK.out W2 (h02);cases ht:(fD p b&&bU p g)
  ·have hfin:=Lib.hid (count_range (n:=n) hc'.out (by rw [ht];rfl))
   clear ht;have aX:=hR.out _ h02;go_wp2_with (refine aK (.tmp 10) (.tmp 37) aP aP rfl aX rfl rfl (fun w9 aN dh=>?_))
   have aQ:=Below.bG hB2 dh;go_wp2_with fail;exact dn results20 aN rfl rfl (dF hfin.out aQ)
  by_cases g2:n<0
  ·have hfin:=Lib.hid (count_range (n:=n) hc'.out (by rw [ht,rU];exact gY.2 (.inl g2)))
   clear ht;have aX:=hR.out _ h02;go_wp2_with (refine aK (.tmp 10) (.tmp 37) aP aP rfl aX rfl rfl (fun w9 aN dh=>?_))
   have aQ:=Below.bG hB2 dh;go_wp2_with fail;exact dn results20 aN rfl rfl (dF hfin.out aQ)
  by_cases g3:200<n
  ·have hfin:=Lib.hid (count_range (n:=n) hc'.out (by rw [ht,rU];exact gY.2 (.inr g3)))
   clear ht;have aX:=hR.out _ h02;go_wp2_with (refine aK (.tmp 10) (.tmp 37) aP aP rfl aX rfl rfl (fun w9 aN dh=>?_))
   have aQ:=Below.bG hB2 dh;go_wp2_with fail;exact dn results20 aN rfl rfl (dF hfin.out aQ)
  have gd2:decide (n<0)=false:=iU g2;have gd3:decide (200<n)=false:=iU g3;rw [dL] at ht
  obtain ⟨ht1,ht2⟩:=ht;have ht1:=oU.1 ht1;have ht2:=lM.1 ht2;obtain ⟨i,rfl⟩:∃ i:Nat,b=i:=⟨b.toNat,by omega⟩
  obtain ⟨j,rfl⟩:∃ j:Nat,g=j:=⟨g.toNat,by omega⟩
  have hi:i<p.aH.length:=by omega
  have hj:j<p.sizes.length:=by omega
  have hio:i<s.on.length:=by rw [hsn.out.ku];exact hi
  have hjr:j<(rowAt s.on i).length:=by rw [hsn.out.rowLen hi];exact hj
  have hjf:j<s.fixed.length:=by rw [hsn.out.fixed.1];exact hj
  have jkZ:(i:Int)<(s.on.length:Int):=by omega
  have jkX:(j:Int)<((rowAt s.on i).length:Int):=by omega
  have jqv:(j:Int)<(s.fixed.length:Int):=by omega
  obtain ⟨Ar,cr,YF,N8,Ux,hrow⟩:=(hN.out W2 hB2).row hio;obtain ⟨YE,lr1,KP⟩:=hrow.at_.int hjr;change W2.cell? _=some (.int .i64 (cell s.on i j)) at KP
  obtain ⟨or2,lr2,rr2⟩:=(hX.out W2 hB2).at_.int hjf;change W2.cell? _=some (.int .i64 (aC s.fixed j)) at rr2
  have hcell:=hsn.out.cell hi hj;have hfx:=hsn.out.fixed.2 hj;have hw1:IntKind.i64.wrap (aC s.fixed j+n)=aC s.fixed j+n:=bf _ (by omega)
  have hw2:IntKind.i64.wrap (aC s.fixed j+n - cell s.on i j)=aC s.fixed j+n - cell s.on i j:=bf _ (by omega)
  go_wp2_with fail;go_quiet (fail)
  have Gi:=below_drewN h02 nq;have hBd:=below_drewN hB2 nq;clear y0 y1 x0 x1 x2 x3 x4 x5 x6 aV aW;clear YF N8 Ux hrow YE lr1 KP or2 lr2 rr2 hw1 hw2 h02 hB2;generalize W2.drewN nq=W3 at Gi hBd ⊢
  obtain ⟨⟨y0,y1⟩,x0,x1,x2,x3,x4,x5,x6,aV,aW⟩:=hK.out W3 (Gi);by_cases g4:aC s.fixed j+n - cell s.on i j< -1048576
  ·have hfin:=Lib.hid (KJ hc'.out hi hj ⟨by omega,by omega⟩ (.inl g4))
   have aX:=hR.out _ Gi;go_wp2_with (refine aK (.tmp 10) (.tmp 60) aP aP rfl aX rfl rfl (fun w9 aN dh=>?_))
   have aQ:=Below.bG hBd dh;go_wp2_with fail;exact dn results20 aN rfl rfl (dF hfin.out aQ)
  by_cases g5:1048576<aC s.fixed j+n - cell s.on i j
  ·have hfin:=Lib.hid (KJ hc'.out hi hj ⟨by omega,by omega⟩ (.inr g5))
   have aX:=hR.out _ Gi;go_wp2_with (refine aK (.tmp 10) (.tmp 60) aP aP rfl aX rfl rfl (fun w9 aN dh=>?_))
   have aQ:=Below.bG hBd dh;go_wp2_with fail;exact dn results20 aN rfl rfl (dF hfin.out aQ)
  have gd4:decide (aC s.fixed j+n - cell s.on i j< -1048576)=false:=iU g4;have gd5:decide (1048576<aC s.fixed j+n - cell s.on i j)=false:=iU g5;have hcs:=Lib.hid (show Counts p s i j n from ⟨hi,hj,by omega,by omega,by omega,by omega⟩)
  have hfin:=Lib.hid (ZQ hc'.out hcs.out);have hbd:=wG hsn.out i j;have hw4:IntKind.i64.wrap (bound s i j - n)=bound s i j - n:=bf _ (by omega)
  have hmm:=@run_makeMap prog;go_wp2_with fail;clear y0 y1 x0 x1 x2 x3 x4 x5 x6 aV aW;clear jkZ jkX jqv;have hmm':=Lib.hid hmm;clear hmm;refine lT 14 [fun gq _=>gq 61=.agg #[.slice A0 s.on.length c0,.slice A1 s.orders.length c1,.slice A2 s.holds.length c2,.slice A3 s.moves.length c3,.slice A4 s.inn.length c4,.slice A5 s.out.length c5,.slice A6 s.fixed.length c6],fun gq w'=>(fun v w'=>∃ V:SV,v=V.val∧aO w' W3.heap.size V s) (gq 62) w',fun gq _=>gq 63=.int .i64 i,fun gq _=>gq 64=.int .i64 j,fun gq _=>gq 65=.agg #[.slice A0 s.on.length c0,.slice A1 s.orders.length c1,.slice A2 s.holds.length c2,.slice A3 s.moves.length c3,.slice A4 s.inn.length c4,.slice A5 s.out.length c5,.slice A6 s.fixed.length c6],fun gq _=>gq 66=.int .i64 i,fun gq _=>gq 67=.int .i64 j,fun gq w'=>(fun v w'=>v=.int .i64 (bound s i j)) (gq 68) w',fun gq _=>gq 69=.int .i64 n,fun gq _=>gq 70=.int .i64 (bound s i j - n),fun gq w'=>(fun v w'=>∃ mb,v=.map (some mb)∧W3.heap.size≤mb∧w'.ownsMap prog 3 (plainElem (H:=Unit) prog 3) mb 0 (.map [])) (gq 71) w',fun gq w'=>(fun v w'=>∃ (V:SV) (mb:Nat),v=.agg #[V.on,V.orders,V.holds,V.moves,V.inn,V.out,V.fixed,.int .i64 i,.int .i64 j,.int .i64 (bound s i j - n),.map (some mb)]∧aO w' W3.heap.size V s∧W3.heap.size≤mb∧w'.ownsMap prog 3 (plainElem (H:=Unit) prog 3) mb 0 (.map [])) (gq 72) w',fun gq w'=>(fun v w'=>∃ bb,v=.pointer (some ⟨bb,0,none⟩)∧KO W3.heap.size i j (bound s i j - n) s bb w') (gq 73) w',fun gq w'=>(fun v w'=>∃ bb,v=.pointer (some ⟨bb,0,none⟩)∧KO W3.heap.size i j (bound s i j - n) s bb w') (gq 14) w'] (by kernel_rfl) (by kernel_rfl) rfl (by kernel_rfl) ?_ (fun f W5 hb5 hR=>?_)
  simp only [eY,eG];refine bg.cons (dU.val rfl rfl (fun gq w' hb ho hd=>?_)) ?_
  ·have e6:=ho 6 rfl;obtain ⟨⟨y0,y1⟩,x0,x1,x2,x3,x4,x5,x6,aV,aW⟩:=hK.out w' (Gi.trans (hb.mono Gi.size));go_simp
  refine bg.cons (dU.one (d:=62) (p:=(fun v w'=>∃ V:SV,v=V.val∧aO w' W3.heap.size V s)) rfl rfl (fun v w1 w2 h hb=>let ⟨V,h1,h2⟩:=h;⟨V,h1,h2.below hb⟩) (fun gq w' hb ho hd=>?_)) ?_
  ·have e61:gq 61=.agg #[.slice A0 s.on.length c0,.slice A1 s.orders.length c1,.slice A2 s.holds.length c2,.slice A3 s.moves.length c3,.slice A4 s.inn.length c4,.slice A5 s.out.length c5,.slice A6 s.fixed.length c6]:=hd ⟨0,.data⟩ (by simp) rfl (by decide)
   unfold dO;go_simp
   refine (Yg w' _ p s (hV.out _ (hBd.trans (hb.mono hBd.size))) hsn.out).mono ?_
   rintro e w2 ⟨u,rfl,⟨V,rfl,ho2⟩,hb2⟩;exact ⟨_,rfl,⟨V,rfl,ho2.from_ hb.size⟩,hb2⟩
  refine bg.cons (dU.val rfl rfl (fun gq w' hb ho hd=>?_)) ?_
  ·have e2:=ho 2 rfl;go_simp
  refine bg.cons (dU.val rfl rfl (fun gq w' hb ho hd=>?_)) ?_
  ·have e3:=ho 3 rfl;go_simp
  refine bg.cons (dU.val rfl rfl (fun gq w' hb ho hd=>?_)) ?_
  ·have e6:=ho 6 rfl;obtain ⟨⟨y0,y1⟩,x0,x1,x2,x3,x4,x5,x6,aV,aW⟩:=hK.out w' (Gi.trans (hb.mono Gi.size));go_simp
  refine bg.cons (dU.val rfl rfl (fun gq w' hb ho hd=>?_)) ?_
  ·have e2:=ho 2 rfl;go_simp
  refine bg.cons (dU.val rfl rfl (fun gq w' hb ho hd=>?_)) ?_
  ·have e3:=ho 3 rfl;go_simp
  refine bg.cons (dU.one (d:=68) (p:=(fun v w'=>v=.int .i64 (bound s i j))) rfl rfl (fun v w1 w2 h hb=>h) (fun gq w' hb ho hd=>?_)) ?_
  ·have e65:gq 65=.agg #[.slice A0 s.on.length c0,.slice A1 s.orders.length c1,.slice A2 s.holds.length c2,.slice A3 s.moves.length c3,.slice A4 s.inn.length c4,.slice A5 s.out.length c5,.slice A6 s.fixed.length c6]:=hd ⟨4,.data⟩ (by simp) rfl (by decide)
   have e66:gq 66=.int .i64 i:=hd ⟨5,.data⟩ (by simp) rfl (by decide)
   have e67:gq 67=.int .i64 j:=hd ⟨6,.data⟩ (by simp) rfl (by decide)
   unfold dO;go_simp
   refine (VF w' _ p s i j (hV.out _ (hBd.trans (hb.mono hBd.size))) hsn.out).mono ?_
   rintro e w2 ⟨rfl,hb2⟩;exact ⟨_,rfl,rfl,hb2⟩
  refine bg.cons (dU.val rfl rfl (fun gq w' hb ho hd=>?_)) ?_
  ·have e4:=ho 4 rfl;go_simp
  refine bg.cons (dU.val rfl rfl (fun gq w' hb ho hd=>?_)) ?_
  ·have e68:(gq 68)=.int .i64 (bound s i j):=hd ⟨7,.data⟩ (by simp) rfl (by decide)
   have e69:gq 69=.int .i64 n:=hd ⟨8,.data⟩ (by simp) rfl (by decide)
   go_simp
  refine bg.cons (dU.one (d:=71) (p:=(fun v w'=>∃ mb,v=.map (some mb)∧W3.heap.size≤mb∧w'.ownsMap prog 3 (plainElem (H:=Unit) prog 3) mb 0 (.map []))) rfl rfl (fun v w1 w2 h hb=>let ⟨mb,h1,h2,h3⟩:=h;⟨mb,h1,h2,h3.kept (gZ (row:=none) hb) (by simp)⟩) (fun gq w' hb ho hd=>?_)) ?_
  ·have hmm:=hmm'.out;unfold dO;go_simp
   exact ⟨⟨hb.size,World.ownsMap_made _ _ _ _⟩,(aj _ _).alloc (aA _) _⟩
  refine bg.cons (dU.one (d:=72) (p:=(fun v w'=>∃ (V:SV) (mb:Nat),v=.agg #[V.on,V.orders,V.holds,V.moves,V.inn,V.out,V.fixed,.int .i64 i,.int .i64 j,.int .i64 (bound s i j - n),.map (some mb)]∧aO w' W3.heap.size V s∧W3.heap.size≤mb∧w'.ownsMap prog 3 (plainElem (H:=Unit) prog 3) mb 0 (.map []))) rfl rfl (fun v w1 w2 h hb=>let ⟨V,mb,h1,h2,h3,h4⟩:=h;⟨V,mb,h1,h2.below hb,h3,h4.kept (gZ (row:=none) hb) (by simp)⟩) (fun gq w' hb ho hd=>?_)) ?_
  ·have e62:∃ V:SV,(gq 62)=V.val∧aO w' W3.heap.size V s:=hd ⟨1,.data⟩ (by simp) rfl (by decide)
   have e63:gq 63=.int .i64 i:=hd ⟨2,.data⟩ (by simp) rfl (by decide)
   have e64:gq 64=.int .i64 j:=hd ⟨3,.data⟩ (by simp) rfl (by decide)
   have e70:gq 70=.int .i64 (bound s i j - n):=hd ⟨9,.data⟩ (by simp) rfl (by decide)
   have e71:∃ mb,(gq 71)=.map (some mb)∧W3.heap.size≤mb∧w'.ownsMap prog 3 (plainElem (H:=Unit) prog 3) mb 0 (.map []):=hd ⟨10,.data⟩ (by simp) rfl (by decide)
   obtain ⟨⟨k0,k1,k2,k3,k4,k5,k6,k7,k8⟩,e62,ho2⟩:=e62;simp only [SV.val] at e62
   obtain ⟨mb,e71,hmb,hown⟩:=e71;have jkL:=Lib.hid ho2;have hown':=Lib.hid hown;have jig:=Lib.hid hmb;clear ho2 hown hmb;unfold dO;go_simp
   refine ⟨⟨⟨k0,k1,k2,k3,k4,k5,k6,k7,k8⟩,mb,by simp,jkL.out,jig.out,hown'.out⟩,aj _ _⟩
  refine bg.cons (dU.one (d:=73) (p:=(fun v w'=>∃ bb,v=.pointer (some ⟨bb,0,none⟩)∧KO W3.heap.size i j (bound s i j - n) s bb w')) rfl rfl (fun v w1 w2 h hb=>let ⟨bb,h1,V,mb,h2,h3,h4,h5⟩:=h;⟨bb,h1,V,mb,h2.below hb,h3,h4,h5.kept (gZ (row:=none) hb) (by simp)⟩) (fun gq w' hb ho hd=>?_)) ?_
  ·have e72:∃ (V:SV) (mb:Nat),(gq 72)=.agg #[V.on,V.orders,V.holds,V.moves,V.inn,V.out,V.fixed,.int .i64 i,.int .i64 j,.int .i64 (bound s i j - n),.map (some mb)]∧aO w' W3.heap.size V s∧W3.heap.size≤mb∧w'.ownsMap prog 3 (plainElem (H:=Unit) prog 3) mb 0 (.map []):=hd ⟨11,.data⟩ (by simp) rfl (by decide)
   obtain ⟨⟨k0,k1,k2,k3,k4,k5,k6,k7,k8⟩,mb,e72,ho2,hmb,hown⟩:=e72;simp only at e72
   have jkL:=Lib.hid ho2;have hown':=Lib.hid hown;have jig:=Lib.hid hmb;have hbz:=Lib.hid hb.size;clear ho2 hown hmb;unfold dO;go_simp
   exact ⟨⟨⟨k0,k1,k2,k3,k4,k5,k6,k7,k8⟩,mb,⟨dw.new _ _ _,(jkL.out).alloc _,jc2⟩,hbz.out,jig.out,hown'.out.alloc _⟩,(aj _ _).alloc (aA _) _⟩
  refine bg.cons (dU.one (d:=14) (p:=(fun v w'=>∃ bb,v=.pointer (some ⟨bb,0,none⟩)∧KO W3.heap.size i j (bound s i j - n) s bb w')) rfl rfl (fun v w1 w2 h hb=>let ⟨bb,h1,V,mb,h2,h3,h4,h5⟩:=h;⟨bb,h1,V,mb,h2.below hb,h3,h4,h5.kept (gZ (row:=none) hb) (by simp)⟩) (fun gq w' hb ho hd=>?_)) ?_
  ·have e73:∃ bb,(gq 73)=.pointer (some ⟨bb,0,none⟩)∧KO W3.heap.size i j (bound s i j - n) s bb w':=hd ⟨12,.data⟩ (by simp) rfl (by decide)
   obtain ⟨bb,e73,hcb⟩:=e73;have hcb':=Lib.hid hcb;clear hcb;unfold dO;go_simp
   exact ⟨hcb'.out,aj _ _⟩
  exact bg.nil;obtain ⟨r61,r62,r63,r64,r65,r66,r67,r68,r69,r70,r71,r72,r73,r14,_⟩:=hR;replace r62:∃ V:SV,(f 62)=V.val∧aO W5 W3.heap.size V s:=r62;replace r68:(f 68)=.int .i64 (bound s i j):=r68;replace r71:∃ mb,(f 71)=.map (some mb)∧W3.heap.size≤mb∧W5.ownsMap prog 3 (plainElem (H:=Unit) prog 3) mb 0 (.map []):=r71;replace r72:∃ (V:SV) (mb:Nat),(f 72)=.agg #[V.on,V.orders,V.holds,V.moves,V.inn,V.out,V.fixed,.int .i64 i,.int .i64 j,.int .i64 (bound s i j - n),.map (some mb)]∧aO W5 W3.heap.size V s∧W3.heap.size≤mb∧W5.ownsMap prog 3 (plainElem (H:=Unit) prog 3) mb 0 (.map []):=r72;replace r73:∃ bb,(f 73)=.pointer (some ⟨bb,0,none⟩)∧KO W3.heap.size i j (bound s i j - n) s bb W5:=r73;replace r14:∃ bb,(f 14)=.pointer (some ⟨bb,0,none⟩)∧KO W3.heap.size i j (bound s i j - n) s bb W5:=r14;simp only [fU,qZ,eY,eG,lF,mG,mF,mD,jH,mg,iW,iy,iJ,r61,r63,r64,r65,r66,r67,r68,r69,r70];clear r61 r63 r64 r65 r66 r67 r68 r69 r70;obtain ⟨bx,r14,V,mb,hx5,hbx,hmb,hown⟩:=r14;simp only [r14];clear r14 r62 r71 r72 r73;refine gy ?_
  have h05:=Gi.trans (hb5.mono Gi.size);have hle:w.heap.size≤W3.heap.size:=hBd.size;have hle0:W0.heap.size≤W3.heap.size:=Gi.size;have jfp:=Lib.hid hx5;have hown':=Lib.hid hown;have hbx5:=hx5.lt;clear hx5 hown Gi hBd hb5 hmm' hw4;generalize W3.heap.size=base at jfp hbx hmb hle hle0
  obtain ⟨gf,cf,jry,ef,jk2,hbf,rf⟩:=aO.qX jfp.out.own.fixed (g:=j) (by rw [hsn.out.fixed.1];exact hj)
  have c6:=jfp.out.cells.2.2.2.2.2.2;rw [ef] at c6
  have ef':=Lib.hid ef;clear ef;go_wp2_with (refine NS rfl (.tmp 81) (.tmp 80) rfl rfl (g:=j) (q:=aC s.fixed j+n - cell s.on i j) jfp.out (by rw [hsn.out.fixed.1];exact hj) ef'.out rfl rfl (fun w6 hx6 Hz=>?_);refine aU ?_)
  unfold Hid;have hown6:=qG hown'.out Hz (fun h=>su hown'.out hbf h)
  have h06:=h05.trans (Hz.below (B:=W0.heap.size) (fun q hq=>by omega) h05.size)
  have QY:=Lib.hid hx6;have jbn:=Lib.hid hown6;clear hx6 Hz hown6 hown' jfp h05 c6 rf hbf ef' jk2;obtain ⟨zS,con,Ju,gr,cr,cur,Ip,Ri,Ia,r0,er,Rh,hbr,rc⟩:=QY.out.own.Jr (b:=i) (g:=j) hio hjr;have c0:=QY.out.cells.1;rw [Ip] at c0
  change w6.cell? _=some (.slice _ (rowAt s.on i).length _) at r0
  change w6.cell? _=some (.slice _ s.on.length _) at c0
  have er':=Lib.hid er;clear Ip er Ia;have jkZ:(i:Int)<(s.on.length:Int):=by omega
  have jkX:(j:Int)<((rowAt s.on i).length:Int):=by omega
  go_wp2_with (refine zi rfl (.tmp 92) (.tmp 91) rfl rfl (i:=i) (g:=j) (q:=n) QY.out hio hjr er'.out rfl rfl (fun w7 hx7 uP=>?_);refine aU ?_)
  unfold Hid;have qy:=qG jbn.out uP (fun h=>su jbn.out hbr h)
  have h07:=h06.trans (uP.below (B:=W0.heap.size) (fun q hq=>by omega) h06.size)
  have pI:=Lib.hid hx7;have WB:=Lib.hid qy;clear hx7 uP qy jbn QY h06 c0 r0 rc hbr er' Ri Rh jkZ jkX;have jkP:=Lib.hid (show ∀ x∈s.moves,1≤x.n∧x.n≤200 from fun x hx=>by
   obtain ⟨q,hq,rfl⟩:=cZ hx;have:=hsn.out.aB hq;rw [iM hq] at this
   exact ⟨this.2.2.2.2.1,this.2.2.2.2.2⟩)
  have hmid:=bI.QK (C:=Ad i j) (l:=s.moves) (fun x hx=>by have:=(jkP.out x hx).1;show 0≤x.n;omega) (bound s i j - n) 0
  have hm8:=hsn.out.lJ;go_wp2_with fail;refine (jiU w7 pI.out (by omega) hm8 jkP.out (by omega)).mono ?_
  rintro e w8 ⟨rfl,V8,hV8,EF,qJ⟩;have jfO:=qG WB.out qJ (fun h=>h.elim (fun h=>su WB.out pI.out.box h) (fun h=>by
   obtain ⟨cur,hcb⟩:=pI.out.own.moves.block h;obtain ⟨o',ho1,ho2⟩:=Di WB.out;rw [hcb] at ho1
   injection ho1 with ho1
   subst ho1;cases ho2))
  have ug:=h07.trans (qJ.below (B:=W0.heap.size) (fun q hq=>by
   rcases hq with rfl|hq
   ·omega
   ·have:=(pI.out.own.moves.size q hq).1;omega) h07.size)
  have lN:=Lib.hid EF;have jfN:=Lib.hid jfO;have hin:=Lib.hid (show ∀ q (hq:q<s.holds.length),∃ o k:Nat,s.holds[q].order=o∧s.holds[q].line=k∧o<s.orders.length∧k<(s.order o).lines.length from fun q hq=>by
   have:=hsn.out.oP hq;rw [bV hq] at this
   obtain ⟨⟨a1,a2⟩,⟨a3,a4⟩,_⟩:=this;refine ⟨s.holds[q].order.toNat,s.holds[q].line.toNat,by omega,by omega,by omega,by omega⟩)
  have hbk:=Lib.hid (show ∀ o k:Nat,o<s.orders.length→k<(s.order o).lines.length→0≤(s.line o k).back∧(s.line o k).back≤200 from fun o k ho hk=>by
   have:=hsn.out.line ho hk;omega)
  have jnX:=aZ jfO.lt (aA _);clear EF qJ jfO WB pI h07;go_wp2_with fail;refine (jiX w8 lN.out hbx jnX hmb jfN.out hsn.out.holds (by omega) hin.out hbk.out).mono ?_
  rintro e w9 ⟨rfl,V9,ov9,D,hV9,qj,mQ,jjw,Y8⟩;have jge:=jd2 (b:=i) (g:=j) (seen:=n) hsn.out;have sQ:Bx w9 base bx 95 (xu i j ov9 (.map (some mb))) V9 (mV s i j n (over s i j n)):=by rw [jge];exact qj
  have hcH:iT s i j (over s i j n)=(oz s i j).rest s.holds ((Ad i j).mid s.moves (bound s i j - n) 0).2:=fO State.holds jge;have h09:=ug.trans (mQ.below (B:=W0.heap.size) (fun q hq=>by
   rcases hq with rfl|hq|rfl|⟨o,ho,hq⟩
   ·omega
   ·have:=(lN.out.own.holds.size q hq).1;omega
   ·omega
   ·have:=((lN.out.own.line o (by rw [← lN.out.own.llen];exact ho)).size q hq).1
    omega) ug.size)
  obtain ⟨s1,hs1⟩:∃ s1:State,s1={s with on:=setCell s.on i j n,fixed:=s.fixed.set j (aC s.fixed j+n - cell s.on i j),moves:=(Ad i j).rest s.moves (bound s i j - n)}:=⟨_,rfl⟩
  have jfY:lS s1 i j (iT s i j (over s i j n)) 0 D:=by rw [hcH,hs1];exact jjw
  have h1:s1.holds=s.holds:=by rw [hs1]
  have h2:oz s1 i j=oz s i j:=by rw [hs1];rfl
  have hmp:=Lib.hid jfY;have h1':=Lib.hid h1;have h2':=Lib.hid h2;have jbf:=Lib.hid sQ;have hlenh:s.holds.length≤72:=jJ hsn.out.holds;have Ns:=Lib.hid Y8;have joV:=Lib.hid (show Maps.size D≤1000000 from bJ Y8.size_le (by show s.holds.length≤1000000;omega))
  have hoL:=Lib.hid (show s.orders.length≤4 from hsn.out.jh)
  have z9:=sQ.box.cell (j:=10) rfl;have lb9:=sQ.lt;clear jge hcH jjw jfY h1 h2 hs1 qj sQ mQ Y8 ug lN jfN hV9 hV8 jnX hin hbk hmid jkP;go_wp2_with fail;refine (keysOf (some mb) w9).mono ?_
  rintro e w10 ⟨rfl,rfl⟩;go_wp2_with fail;refine (jaC mb _ D _ w9 Ns.out joV.out).mono ?_
  rintro e w11 ⟨vk,ss,rfl,hperm,hrow,jov⟩;have hks:=YS hsn.out hmp.out h1'.out Ns.out hperm;have hkl:ss.length=(dW s D).length:=by
   have:=fO List.length hks;rw [List.length_mergeSort] at this
   rw [this];unfold oq;exact kF ..
  have hvk:Own dY 1 3 w11 (w9.heap.size+1) vk (oq (dW s D)):=by
   rw [hks,hkl] at hrow
   unfold Own;have e1:(oq (dW s D)).length=(dW s D).length:=by unfold oq;exact kF ..
   have e2:(oq (dW s D)).flatMap dY=(oq (dW s D)).map encZ:=by
    induction oq (dW s D) with
    |nil=>rfl
    |cons y r ih=>simp [dY,ih]
   rw [e1,e2];rw [fP] at hrow
   exact hrow
  have Zm:Below w9.heap.size w9 w11:=((aj _ w9).alloc (aA _) _).trans (jov.mono (by simp))
  obtain ⟨Ak,ck,jnB⟩:=hvk.isSlice;have hnl:(oq (dW s D)).length=(dW s D).length:=by unfold oq;exact kF ..
  rw [hnl] at jnB
  subst jnB;have jkv:=Lib.hid hvk;obtain ⟨ksT,jn2⟩:∃ ksT:Nat→Prop,ksT=fun q=>q=bx∨∃ o,o<V9.lines.length∧(V9.line o).ownBlock=some q:=⟨_,rfl⟩
  have hkT:=Lib.hid (show ∀ q,ksT q→base≤q∧q<w9.heap.size∧q≠mb from fun q hq=>by
   rw [jn2] at hq
   rcases hq with rfl|⟨o,ho,hq⟩
   ·exact ⟨hbx,lb9,fun h=>su Ns.out jbf.out.box h.symm⟩
   ·have hsz:=(jbf.out.own.line o (by rw [← jbf.out.own.llen];exact ho)).size q hq
    refine ⟨hsz.1,hsz.2,fun h=>?_⟩
    obtain ⟨cur,hcb⟩:=(jbf.out.own.line o (by rw [← jbf.out.own.llen];exact ho)).block hq
    obtain ⟨o',ho1,ho2⟩:=Di Ns.out;rw [← h,hcb] at ho1
    injection ho1 with ho1
    subst ho1;cases ho2)
  have h011:=h09.trans (Zm.mono h09.size);have TN:=Lib.hid (show Bx w11 base bx 95 (xu i j ov9 (.map (some mb))) V9 (Hu p s i j n D 0) from jbf.out.below Zm)
  have jbo:=Lib.hid (Ns.out.kept (gZ (row:=none) Zm) (by simp))
  have hKl:(dW s D).length≤12:=by
   unfold dW;refine bJ (yR _ _) ?_
   rw [List.length_range];have:=hoL.out;omega
  have jqm:base≤w9.heap.size:=by omega
  have h9s:=Zm.size;clear hks hkl hvk hrow hperm hnl z9 jov jbf Ns h09 Zm joV;generalize w9.heap.size=z9 at jkv hkT lb9 jqm h9s ⊢
  go_wp2_with fail;have hmp2:=hmp;go_loopw [104] (fun q' wr=>∃ (q:Nat) (V':SV),q≤(dW s D).length∧q'=.int .i64 q∧V'={V9 with holds:=V'.holds}∧Bx wr base bx 95 (xu i j ov9 (.map (some mb))) V' (Hu p s i j n D q)∧Step ksT w11 wr) (fun q' _=>(dW s D).length - (RowKit.intOf q').toNat)
  case atStart=>exact ⟨0,V9,aT _,rfl,rfl,TN.out,Step.refl _ _⟩
  case round=>
   obtain ⟨q,V',hq,rfl,hV',hx,hst⟩:=hrel;have hV2:=Lib.hid hV';have hst':=Lib.hid hst;have hx':=Lib.hid hx;have h0r:=h011.trans (hst.below (B:=W0.heap.size) (fun k hk=>by have:=(hkT.out k hk).1;omega) h011.size)
   have hBr:=hb0.trans (h0r.mono hb0.size);clear hV' hst hx;by_cases hq1:q<(dW s D).length
   ·have hqi:(q:Int)<((dW s D).length:Int):=by omega
    obtain ⟨gk,ck',curk,ek,_,_,rk⟩:=aO.qX (jkv.out.step hst'.out (fun k hk hh=>by have:=(jkv.out.size k hk).1;have:=(hkT.out k hh).2.1;omega)) (g:=q) (by unfold oq;rw [kF];exact hq1)
    rw [V4 hq1] at rk
    injection ek with ek ek2 ek3
    clear ek2 ek3;subst ek;obtain ⟨kq,hkq⟩:∃ kq,(dW s D)[q]=kq:=⟨_,rfl⟩;have hkm:=Wu hq1;have hmay:=Lib.hid (jh2 hc'.out hcs.out hmp.out h1'.out h2'.out hq1);have hsucc:=Lib.hid (QU (p:=p) (i:=i) (j:=j) (n:=n) hq1);rw [hkq] at rk hkm hmay hsucc
    have hkv:=Lib.hid (fun z=>jh1 hmp.out h1'.out hkm.1 z)
    have hoL':=hoL.out;have hkq12:kq<12:=by omega
    have hkqh:=Lib.hid hkq;clear hkq;go_wp2_with fail;have z10:=hx'.out.box.cell (j:=10) rfl;have lbr:=hx'.out.lt;have hownr:=Lib.hid (qG jbo.out hst'.out (fun hh=>(hkT.out mb hh).2.2 rfl))
    have hkey:keyOf prog 3 (.int .i64 (kq:Int))=some (Fq (kq:Int)):=jfi (by omega)
    obtain ⟨nv,hnv⟩:∃ nv:Int,jD s i j (over s i j n) ((kq / 3:Nat):Int) ((kq%3:Nat):Int)=nv:=⟨_,rfl⟩;rw [hnv] at hkv hmay hsucc
    have hlook:=Lib.hid (show ∀ w',Below wr.heap.size wr w'→(Instr.lookup 93 (.map (some mb)) (.int .i64 (kq:Int)) false).run prog w'=.ok (.int .i64 nv) w' from fun w' hb=>by
     obtain ⟨c,h1,h2,_⟩:=(hownr.out.kept (gZ (row:=none) hb) (by simp)).lookup_int Wp underlying93 underlying3 (jce w') hkey
     rw [hkv.out] at h2
     injection h2 with h2
     injection h2 with _ h2
     rw [← h2] at h1
     exact h1)
    have hd3:IntKind.i64.wrap ((kq:Int) / 3)=(kq:Int) / 3:=bf _ (by omega)
    have hm3:IntKind.i64.wrap ((kq:Int)%3)=(kq:Int)%3:=bf _ (by omega)
    have hm4:(kq:Int).tmod 3=(kq:Int)%3:=Int.tmod_eq_emod_of_nonneg (by omega)
    have hnvh:=Lib.hid hnv;clear hnv hkv hkey rk;refine lT 15 [fun gq _=>gq 108=.agg #[.slice Ab p.aH.length cb,.slice As p.sizes.length cs],fun gq _=>gq 109=.pointer (some ⟨bx,0,none⟩),fun gq _=>gq 110=.pointer (some ⟨bx,0,none⟩),fun gq _=>gq 111=.pointer (some ⟨bx,0,none⟩),fun gq _=>gq 112=.int .i64 kq,fun gq _=>gq 113=.int .i64 ((kq:Int) / 3),fun gq _=>gq 114=.int .i64 kq,fun gq _=>gq 115=.int .i64 ((kq:Int)%3),fun gq _=>gq 116=.pointer (some ⟨bx,0,none⟩),fun gq _=>gq 117=.pointer (some ⟨bx,0,none⟩),fun gq _=>gq 118=.pointer (some ⟨bx,10,none⟩),fun gq _=>gq 119=.map (some mb),fun gq _=>gq 120=.int .i64 kq,fun gq _=>gq 121=.int .i64 nv,fun gq _=>gq 122=.int .i64 i] (by kernel_rfl) (by kernel_rfl) rfl (by kernel_rfl) ?_ (fun f W5 hb5 hR=>?_)
    simp only [eY,eG];refine bg.cons (dU.val rfl rfl (fun gq w' hb ho hd=>?_)) ?_
    ·have e5:=ho 5 rfl;obtain ⟨⟨y0,y1⟩,x0,x1,x2,x3,x4,x5,x6,aV,aW⟩:=hK.out w' (h0r.trans (hb.mono h0r.size));go_simp
    refine bg.cons (dU.val rfl rfl (fun gq w' hb ho hd=>?_)) ?_
    ·have e14:=ho 14 rfl;go_simp
    refine bg.cons (dU.val rfl rfl (fun gq w' hb ho hd=>?_)) ?_
    ·have e109:gq 109=.pointer (some ⟨bx,0,none⟩):=hd ⟨1,.data⟩ (by simp) rfl (by decide)
     go_simp
    refine bg.cons (dU.val rfl rfl (fun gq w' hb ho hd=>?_)) ?_
    ·have jrt:gq 110=.pointer (some ⟨bx,0,none⟩):=hd ⟨2,.data⟩ (by simp) rfl (by decide)
     go_simp
    refine bg.cons (dU.val rfl rfl (fun gq w' hb ho hd=>?_)) ?_
    ·have e16:=ho 16 rfl;go_simp
    refine bg.cons (dU.val rfl rfl (fun gq w' hb ho hd=>?_)) ?_
    ·have jlK:gq 112=.int .i64 kq:=hd ⟨4,.data⟩ (by simp) rfl (by decide)
     go_simp
    refine bg.cons (dU.val rfl rfl (fun gq w' hb ho hd=>?_)) ?_
    ·have e16:=ho 16 rfl;go_simp
    refine bg.cons (dU.val rfl rfl (fun gq w' hb ho hd=>?_)) ?_
    ·have e114:gq 114=.int .i64 kq:=hd ⟨6,.data⟩ (by simp) rfl (by decide)
     go_simp
    refine bg.cons (dU.val rfl rfl (fun gq w' hb ho hd=>?_)) ?_
    ·have e14:=ho 14 rfl;go_simp
    refine bg.cons (dU.val rfl rfl (fun gq w' hb ho hd=>?_)) ?_
    ·have e116:gq 116=.pointer (some ⟨bx,0,none⟩):=hd ⟨8,.data⟩ (by simp) rfl (by decide)
     go_simp
    refine bg.cons (dU.val rfl rfl (fun gq w' hb ho hd=>?_)) ?_
    ·have e117:gq 117=.pointer (some ⟨bx,0,none⟩):=hd ⟨9,.data⟩ (by simp) rfl (by decide)
     go_simp
    refine bg.cons (dU.val rfl rfl (fun gq w' hb ho hd=>?_)) ?_
    ·have e118:gq 118=.pointer (some ⟨bx,10,none⟩):=hd ⟨10,.data⟩ (by simp) rfl (by decide)
     have x1:=(hb.cell (p:=⟨bx,10,none⟩) lbr).trans z10;go_simp
    refine bg.cons (dU.val rfl rfl (fun gq w' hb ho hd=>?_)) ?_
    ·have e16:=ho 16 rfl;go_simp
    refine bg.cons (dU.val rfl rfl (fun gq w' hb ho hd=>?_)) ?_
    ·have e119:gq 119=.map (some mb):=hd ⟨11,.data⟩ (by simp) rfl (by decide)
     have e120:gq 120=.int .i64 kq:=hd ⟨12,.data⟩ (by simp) rfl (by decide)
     have e3:=hlook.out w' hb;simp only [execOp,dQ,e119,e120,lW,e3,Result.andThen,nC]
    refine bg.cons (dU.val rfl rfl (fun gq w' hb ho hd=>?_)) ?_
    ·have e2:=ho 2 rfl;go_simp
    exact bg.nil;obtain ⟨je2,je1,je0,jeZ,jeY,jeX,jeW,jm5,jm4,jm3,jm2,jm1,jm0,jmZ,jmY,_⟩:=hR;simp only [fU,qZ,eY,eG,lF,mG,mF,mD,jH,mg,iW,iy,iJ,je2,je1,je0,jeZ,jeY,jeX,jeW,jm5,jm4,jm3,jm2,jm1,jm0,jmZ,jmY];clear je2 je1 je0 jeZ jeY jeX jeW jm5 jm4 jm3 jm2 jm1 jm0 jmZ jmY;have hq3:(kq:Int) / 3=((kq / 3:Nat):Int):=by omega
    have hr3:(kq:Int)%3=((kq%3:Nat):Int):=by omega
    rw [hq3,hr3];have h05:=h0r.trans (hb5.mono h0r.size);have hB5:=hb0.trans (h05.mono hb0.size);have hx5:=Lib.hid (hx'.out.below hb5);clear hq3 hr3 hd3 hm3 hm4 z10;go_wp2_with fail;refine (jcc W5 _ p _ (kq / 3) (kq%3) nv i (hP'.out _ hB5) hmay.out.1 hmay.out.2 hx5.out (by have:=hst'.out.size;have:=hb5.size;omega)).mono ?_
    rintro e w6 ⟨rfl,V6,hV6,hx6,Hz⟩;have jnJ:Step ksT wr w6:=(Step.of_below hb5).trans (Hz.mono fun k hk=>by
     rw [jn2];rcases hk with rfl|hk
     ·exact .inl rfl
     ·refine .inr ⟨kq / 3,?_,by rw [hV2.out] at hk;exact hk⟩
      have:=hx'.out.own.llen;rw [hV2.out] at this
      rw [this];exact hmay.out.2.ho)
    go_wp2_with fail;go_roundw
    case rel=>exact ⟨q+1,V6,by omega,by go_num,by rw [hV6,hV2.out],by rw [hsucc.out];exact hx6,hst'.out.trans jnJ⟩
    case measure=>simp [RowKit.intOf];omega
   ·obtain rfl:q=(dW s D).length:=by omega
    have hall:=Lib.hid (jdv hc'.out hcs.out hmp.out h1'.out h2'.out);have aX:=hR.out _ h0r;obtain ⟨b0,b1,b2,b3,b4,b5,b6⟩:=hx'.out.cells;have eU:=hx'.out.own.one;go_wp2_with (refine aK (.tmp 10) (.tmp 128) aP V' rfl aX rfl eU (fun w9 aN dh=>?_))
    have ng:=hx'.out.own.keptBy dh aX (by decide) (by decide) (by decide) (by decide) (by decide) (by decide)
    have aQ:=Below.bG hBr dh;clear b0 b1 b2 b3 b4 b5 b6;go_wp2_with fail;exact dn results20 aN rfl rfl (wH hfin.out ((hall.out ▸ ng).from_ hle) aQ)
 ·have hne:(checkState p s!=0)=true:=by simpa using hc
  have hfin:=Lib.hid (Ve (b:=b) (g:=g) (n:=n) hc);clear hc;have aX:=hR.out _ h1;go_wp2_with (refine aK (.tmp 10) (.tmp 22) aP aP rfl aX rfl rfl (fun w9 aN dh=>?_))
  have aQ:=Below.bG hB1 dh;go_wp2_with fail;exact dn results20 aN rfl rfl (dF hfin.out aQ)
end Wh
namespace Wh
open Go Go.RowKit Go.Shelf Go.Proofs Tryz
def OC (w:World) (base:Nat) (v:Value) (x:qo):Prop:=∃ vl,v=.agg #[.int .i64 x.kind,.int .i64 x.a,.int .i64 x.b,.int .i64 x.c,.int .i64 x.n,vl]∧Sl eP w base vl x.lines
theorem LW {w:World} {v:Value} {x:qo} (h:OC w w.heap.size v x):∃ Al cl,v=.agg #[.int .i64 x.kind,.int .i64 x.a,.int .i64 x.b,.int .i64 x.c,.int .i64 x.n,.slice Al x.lines.length cl]∧
  Hid (∀ W,Below w.heap.size w W→OC W W.heap.size (.agg #[.int .i64 x.kind,.int .i64 x.a,.int .i64 x.b,.int .i64 x.c,.int .i64 x.n,.slice Al x.lines.length cl]) x)∧
  Hid (∀ W,Below w.heap.size w W→Sl eP W W.heap.size (.slice Al x.lines.length cl) x.lines)∧x.lines.length≤140737488355232:=by
 obtain ⟨vl,rfl,hl⟩:=h;obtain ⟨Al,cl,rfl,hll,hAl⟩:=hl;exact ⟨Al,cl,rfl,Lib.hid (fun W hW=>⟨_,rfl,Sl.up ⟨Al,cl,rfl,hll,hAl⟩ hW hW.size⟩),Lib.hid (fun W hW=>Sl.up ⟨Al,cl,rfl,hll,hAl⟩ hW hW.size),hll⟩
end Wh
