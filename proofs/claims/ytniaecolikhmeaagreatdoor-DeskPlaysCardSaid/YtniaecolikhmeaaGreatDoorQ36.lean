/- Texts of the claim, joined. -/
import Derived.Test.YtniaecolikhmeaaGreatDoorQ35
import Derived.Test.YtniaecolikhmeaaGreatDoorQ34
import Derived.Test.YtniaecolikhmeaaGreatDoorQ33
import Derived.Test.YtniaecolikhmeaaGreatDoorQ13
set_option maxHeartbeats 20000000
set_option maxRecDepth 100000
set_option linter.all false
namespace Wh
open Go Go.RowKit Go.Maps Go.Sort Go.Shelf Go.Proofs Tryz
section
theorem jh1(m:Nat):AnyZI.SortsIn prog Wh.sortedA_ren Fence.wide m:=
 ⟨λblk off cap ss W hH Dz hsz=>iy.2 (AnyM.slices_Sort_int Wh.sortA blk off cap ss W hH Dz hsz),λp cap W=>iy.2 (AnyM.slices_Sort_int_none Wh.sortA p cap W)⟩
theorem keysOf(mb:Option Nat)(W:World):Calls prog 112 #[.map mb] W λe w'=>e=.returned (.func (.func 162) #[] #[.pointer (some W)])/\w'=W.alloc (.cells #[.map mb] 150):=
 (iy (n:=5)).1 (AnyZI.keys_in Wh.keysA Fence.wide 5 trivial rfl mb W)
theorem jd3(b nn:Nat)(D0:DataW Unit)(R:Value->Option (DataW Unit×List MemPlace))(w:World)(mQ:w.ownsMap prog 3 R b nn D0)(hmax:Maps.size D0<=1000000):
  Calls prog 111 #[.func (.func 162) #[] #[.pointer (some w)]] (w.alloc (.cells #[.map (some b)] 150)) λe w'=>∃(v:Value) (ss:List Int),e=.returned v/\ss.Perm (intKeys D0)/\
   w'.ownsRow (w.alloc (.cells #[.map (some b)] 150)).heap.size 3 1 v ss.length ((ss.mergeSort (λx y=>decide (x<=y))).map encZ)/\Below (w.alloc (.cells #[.map (some b)] 150)).heap.size (w.alloc (.cells #[.map (some b)] 150)) w':=by
 have hbl:=mQ.lt;have hseq:SeqGives Fence.wide 2 prog 162 #[.pointer (some w)] encZ (λss=>ss.Perm (intKeys D0)) (Maps.size D0) (w.alloc (.cells #[.map (some b)] 150)):=
  AnyZI.keys_gives (ρ:=Wh.keysA_ren) {Wh.keysA with} Fence.wide _ trivial rfl (by omega) w b nn D0 _ (by simp) (by simp) (by
   obtain⟨es,clock,hb,Ft,hs,hD⟩:=mQ;exact⟨es,clock,(oO _ _ b hbl).trans hb,Ft,hs,hD⟩)
 have cS:=AnyZI.sorted_in Wh.sortedA Fence.wide 5 trivial trivial trivial trivial rfl (by omega) (jh1 _) (enters_of func161 (by kernel_rfl) rfl) 162 #[.pointer (some w)] trivial (enters_of func162 (by kernel_rfl) rfl) _ _ (by unfold maxLen;omega) (by omega) _ hseq
 refine((iy (n:=5)).1 cS).mono ?_
 rintro e w' ⟨v,ss,h1,h2,h3,_,h5⟩;exact⟨v,ss,h1,h2,h3,h5⟩
end
section
section
variable {p:dG} {s s1:aI} {i j:Nat} {D:DataW Unit} {l:List eX}
def jcC(D:DataW Unit)(q:Nat):Bool:=has D (Nv (q:Int))
def kM(s:aI)(D:DataW Unit):List Nat:=(List.range (s.ak.length*3)).filter (jcC D)
theorem jlG(hs:pz p s)(h:wM s1 i j l 0 D)(h1:s1.aA=s.aA)(x:Int):has D (Nv x)=true↔∃q:Nat,q<s.ak.length*3/\jcC D q=true/\x=q:=by
 constructor
 ·intro hx;obtain⟨a,ha,_,_,he⟩:=(h.keys x).1 hx;simp only[h1]at ha he
  have:=hs.yL ha;rw[iZ ha]at this
  obtain⟨⟨a1,a2⟩,⟨a3,a4⟩,_⟩:=this;have hf:=(nH.1 ((gI.1 hs.aA).1 _ (dh ha))).1;unfold sJ at hf
  obtain⟨q,rfl⟩:∃q:Nat,x=q:=⟨x.toNat,by omega⟩
  exact⟨q,by omega,hx,rfl⟩
 ·rintro⟨q,_,h2,rfl⟩;exact h2
theorem jcz(hs:pz p s)(h:wM s1 i j l 0 D)(h1:s1.aA=s.aA){w:World}{R:Value->Option (DataW Unit×List MemPlace)}{mb nn:Nat}(mQ:w.ownsMap prog 3 R mb nn D){ss:List Int}(hp:ss.Perm (intKeys D)):
  ss.mergeSort (λx y=>decide (x<=y))=yI (kM s D):=by
 obtain⟨es,rfl,hpw,_⟩:=mQ.entries jaR;obtain⟨es',he,hko⟩:=mQ.keysOf;obtain rfl:es=es':=by injection he
 have hpl:(kM s (.map es)).Pairwise (·<·):=tZ _ wY
 have hnn:(yI (kM s (.map es))).Nodup:=by
  unfold yI;rw[List.Nodup,nZ];exact hpl.imp λh=>by omega
 have hm:∀x:Int,x∈yI (kM s (.map es))↔has (.map es) (Nv x)=true:=λx=>by
  rw[jlG hs h h1 x];unfold yI kM;simp only[kN,jX,jq];constructor
  ·rintro⟨q,⟨h1,h2⟩,rfl⟩;exact⟨q,h1,h2,rfl⟩
  ·rintro⟨q,h1,h2,rfl⟩;exact⟨q,⟨h1,h2⟩,rfl⟩
 have hperm:=perm_intKeys hpw (λp hp=>by obtain⟨v,hv⟩:=hko p hp;obtain⟨x,_,hx,_⟩:=Maps.keyOf_i64 underlying3 hv;exact⟨x,hx⟩) hnn hm
 have tr:∀a b c:Int,decide (a<=b)=true->decide (b<=c)=true->decide (a<=c)=true:=λa b c h1 h2=>by simp only[dI]at*;omega
 have to:∀a b:Int,(decide (a<=b)||decide (b<=a))=true:=λa b=>by simp only[jY,dI];omega
 refine List.Perm.eq_of_pairwise (le:=λa b=>decide (a<=b)=true) (λa b _ _ h1 h2=>by simp only[dI]at h1 h2;omega) (List.pairwise_mergeSort tr to ss) (by
  unfold yI;rw[nZ];exact hpl.imp λh=>by simp only[dI];omega) ((List.mergeSort_perm ss _).trans (hp.trans hperm.symm))
theorem jiT{v:Int}(hs:pz p s)(h:wM s1 i j l 0 D)(h1:s1.aA=s.aA)(h2:yM s1 i j=yM s i j){q:Nat}(hq:jcC D q=false):rF s i j v ((q / 3:Nat):Int) ((q%3:Nat):Int)=0:=by
 have hr:=Eo hs i j v ((q / 3:Nat):Int) ((q%3:Nat):Int);by_cases h0:dD s.aA ((q / 3:Nat):Int) ((q%3:Nat):Int) i=0
 ·omega
 ·obtain⟨_,hmem⟩:=Ee (gI.1 hs.aA).1 (gI.1 hs.aA).2 h0;by_cases hg:(s.aK (q / 3) (q%3)).dW=j
  ·obtain⟨a,ha,hae⟩:=bg hmem;have:jcC D q=true:=(h.keys (q:Int)).2 ⟨a,by rw[h1];exact ha,aN _,by
    simp only[h1,h2,hae];exact FX.2 ⟨rfl,by show(s.aK ((q / 3:Nat):Int).toNat ((q%3:Nat):Int).toNat).dW=_;rw[dn,dn];exact hg⟩,by
    simp only[h1,hae];omega⟩
   rw[hq]at this
   cases this
  ·have:=(NP hs i j v ((q / 3:Nat):Int) ((q%3:Nat):Int) i).2 (λhh=>hg (by have:=hh.2;rw[dn,dn]at this;exact this))
   unfold rF;omega
theorem jcB{jy v:Int}(hc:aO p s=0)(h:wM s1 i j l 0 D)(h1:s1.aA=s.aA)(h2:yM s1 i j=yM s i j){q:Nat}(hq:jcC D q=true):
  May (xk s i j jy v) (q / 3) (q%3) (rF s i j v ((q / 3:Nat):Int) ((q%3:Nat):Int)):=by
 have hr0:=jm hc;have hs:=hr0.sane;obtain⟨a,ha,_,hi,he⟩:=(h.keys (q:Int)).1 hq;simp only[h1,h2]at ha hi he
 have hh:=hs.yL ha;rw[iZ ha]at hh
 obtain⟨⟨a1,a2⟩,⟨a3,a4⟩,_⟩:=hh;have hfa:=nH.1 ((gI.1 hs.aA).1 _ (dh ha));have hf:=hfa.1;unfold sJ at hf
 have e1:s.aA[a].aC=((q / 3:Nat):Int):=by omega
 have e2:s.aA[a].aK=((q%3:Nat):Int):=by omega
 have e3:=(FX.1 hi).1;rw[e1]at a2 a4
 rw[e2]at a4
 simp only[dn]at a4
 have ho:q / 3<s.ak.length:=by omega
 have hk:q%3<(s.aC (q / 3)).aH.length:=by omega
 have hka:=Ez (JZ hs.aA) ha;rw[e1,e2,e3]at hka
 have hkk:=Le hs.aA ((q / 3:Nat):Int) ((q%3:Nat):Int) i;have hr:=Eo hs i j v ((q / 3:Nat):Int) ((q%3:Nat):Int);have h5:=hr0.BU ho hk;have h3:=hs.aK ho hk;have h4:=hs.eH ho;have h6:(s.aC (q / 3)).eH≠0:=λe=>by rw[aB e]at h5;omega
 have h7:(s.aC (q / 3)).eH≠2:=λe=>h5.2 ⟨e,by omega⟩
 refine⟨by rw[uS];exact ho,by rw[rX _ ho];exact hk,by rw[ML _ ho];omega,hr.1,?_⟩
 rw[Fa ho hk];simp only;omega
theorem jlE{v:Int}(h:wM s1 i j (pW s i j v) 0 D)(h1:s1.aA=s.aA){q:Nat}(hq:jcC D q=true)(z:DataW Unit):D.atKey (Nv (q:Int)) z=.lit (.int .i64 (rF s i j v ((q / 3:Nat):Int) ((q%3:Nat):Int))):=by
 have e:(q:Int)=((q / 3:Nat):Int)*3+((q%3:Nat):Int):=by omega
 have hq':has D (Nv (((q / 3:Nat):Int)*3+((q%3:Nat):Int)))=true:=by rw[<- e];exact hq
 have:=h.vals (q / 3) (q%3) (by omega) hq' z
 rw[<- e]at this
 rw[this,h1];rfl
def OI(p:dG)(s:aI)(i j:Nat)(n:Int)(D:DataW Unit)(q:Nat):aI:=QK p i (λo k=>rF s i j (over s i j n) o k) ((kM s D).take q) (xk s i j n (over s i j n))
theorem Xm{n:Int}{q:Nat}(hq:q<(kM s D).length):OI p s i j n D (q+1)=(qM p (OI p s i j n D q) ((kM s D)[q] / 3) ((kM s D)[q]%3) (rF s i j (over s i j n) (((kM s D)[q] / 3:Nat):Int) (((kM s D)[q]%3:Nat):Int)) i).1:=by
 unfold OI;rw[bM hq,NQ];rfl
theorem jga{a b:Nat}(ha:a<b)(hb:b<(kM s D).length):(kM s D)[a]<(kM s D)[b]:=by
 have hpl:(kM s D).Pairwise (·<·):=tZ _ wY
 exact ji.1 hpl a b (by omega) hb ha
theorem jaT{q:Nat}(hq:q<(kM s D).length):jcC D (kM s D)[q]=true/\(kM s D)[q]<s.ak.length*3:=by
 have:=jX.1 (dh hq);exact⟨this.2,jq.1 this.1⟩
theorem jcA{n:Int}(hc:aO p s=0)(f:Bh p s i j n)(h:wM s1 i j l 0 D)(h1:s1.aA=s.aA)(h2:yM s1 i j=yM s i j):
  ∀q,q<=(kM s D).length->KI p i (λo k=>∃r,∃hr:r<(kM s D).length,r<q/\o=(kM s D)[r] / 3/\k=(kM s D)[r]%3) (xk s i j n (over s i j n)) (OI p s i j n D q)
 |0,_=>by
  unfold OI;rw[aS];exact KI.refl (jm (MN hc f))
 |q+1,hq=>by
  have t:=jcA hc f h h1 h2 q (by omega)
  have hm:=jcB (jy:=n) (v:=over s i j n) hc h h1 h2 (jaT (show q<(kM s D).length by omega)).1
  rw[Xm (by omega)]
  refine(t.trans (KI.one t.right (t.may ?_ (.inr hm)))).mono ?_
  ·rintro⟨r,hr,hrq,e1,e2⟩;have:=jga (s:=s) (D:=D) hrq (by omega)
   omega
  ·rintro o k (⟨r,hr,hrq,e1,e2⟩|⟨e1,e2⟩)
   ·exact⟨r,hr,by omega,e1,e2⟩
   ·exact⟨q,by omega,by omega,e1,e2⟩
theorem jlF{n:Int}(hc:aO p s=0)(f:Bh p s i j n)(h:wM s1 i j l 0 D)(h1:s1.aA=s.aA)(h2:yM s1 i j=yM s i j){q:Nat}(hq:q<(kM s D).length):
  lu p (OI p s i j n D q)/\May (OI p s i j n D q) ((kM s D)[q] / 3) ((kM s D)[q]%3) (rF s i j (over s i j n) (((kM s D)[q] / 3:Nat):Int) (((kM s D)[q]%3:Nat):Int)):=by
 have t:=jcA hc f h h1 h2 q (by omega)
 have hm:=jcB (jy:=n) (v:=over s i j n) hc h h1 h2 (jaT hq).1;refine⟨t.right,by rw[t.ak];exact hm.ho,by rw[t.aH];exact hm.hk,by rw[t.eH];exact hm.eH,hm.n0,?_⟩
 rw[t.eU]
 ·exact hm.eU
 ·rintro⟨r,hr,hrq,e1,e2⟩;have:=jga (s:=s) (D:=D) hrq hq;omega
theorem jgX{n:Int}(hc:aO p s=0)(f:Bh p s i j n)(h:wM s1 i j l 0 D)(h1:s1.aA=s.aA)(h2:yM s1 i j=yM s i j):OI p s i j n D (kM s D).length=Jg p s i j n:=by
 have hr:=jm hc;have hcut:=jm (MN hc f);have lZ:(xk s i j n (over s i j n)).ak.length=s.ak.length:=uS;unfold OI kM;rw[dR,jbo (jcC D) (λq hq=>jiT hr.sane h h1 h2 hq)]
 unfold Jg;rw[<- lZ];refine Z8 (λo ho=>(hcut.sane.rE ho).2) (λo k hk=>?_) (λm o hm=>?_) _ (ay _)
 ·have hn:=Eo hr.sane i j (over s i j n) (o:Int) (k:Int);by_cases h0:dD s.aA (o:Int) (k:Int) i=0
  ·omega
  ·obtain⟨_,hmem⟩:=Ee (gI.1 hr.sane.aA).1 (gI.1 hr.sane.aA).2 h0;obtain⟨a,ha,hae⟩:=bg hmem;have hh:=hr.sane.yL ha;rw[iZ ha,hae]at hh
   simp only[dn]at hh
   obtain⟨⟨a1,a2⟩,⟨a3,a4⟩,_⟩:=hh;rw[rX o (by omega)]at hk
   omega
 ·exact(Fj (b:=i) hcut (λo k ho hk=>by
   rw[uS]at ho
   rw[rX o ho]at hk
   exact Qh hr ho hk) m hm).aH o
end
end
end Wh
namespace Wh
open Go Go.RowKit Go.Shelf Go.Proofs Go.Maps Tryz
section
attribute [local go_sem] aV jF iY jI
def RY(B:Nat)(bn g v:Int)(s:aI)(b:Nat)(w:World):Prop:=∃(V:SV) (mb:Nat),Bx w B b 152 (Gy bn g v (.map (some mb))) V s/\B<=b/\B<=mb/\w.ownsMap prog 3 (plainElem (H:=Unit) prog 3) mb 0 (.map [])
theorem jmy(w:World)(v vs:Value)(p:dG)(s:aI)(b g n:Int)(hp:kK w w v p)(hv:kG w w vs s):
  Calls prog 68 #[v,vs,b,g,n] w (nN (count p s b g n) w):=by
 obtain⟨Ab,cb,As,cs,rfl,hP',hBn,hSz,hlb,hls⟩:=o9 hp;obtain⟨A0,c0,A1,c1,A2,c2,A3,c3,A4,c4,A5,c5,A6,c6,rfl,hV,hN,hO,hH,hM,hI,hU,hX,hl0,hl1,hl2,hl3,hl4,hl5,Jb⟩:=lY hv;go_enter func68,ntmps68
 go_wp2_with fail;obtain⟨W0,hW0,hb0,kX,um,hsE,hK,hR⟩:=yS w p s Ab cb As cs A0 c0 A1 c1 A2 c2 A3 c3 A4 c4 A5 c5 A6 c6;rw[hW0];clear hW0;obtain⟨⟨y0,y1⟩,x0,x1,x2,x3,x4,x5,x6,fB,fC⟩:=hK.O W0 (aj W0 W0);go_wp2_with fail;clear y0 y1 x0 x1 x2 x3 x4 x5 x6 fB fC;refine(Nh _ _ _ p s (hP'.O _ hb0) (hV.O _ hb0)).mono ?_
 rintro e W1 ⟨rfl,h1⟩;have hB1:=fD hb0 h1;obtain⟨⟨y0,y1⟩,x0,x1,x2,x3,x4,x5,x6,fB,fC⟩:=hK.O W1 (h1);by_cases hc:aO p s=0
 ·have hc':=ah hc;have hsn:=ah (gB.1 hc).1;rw[hc];clear hc;go_wp2_with fail;clear y0 y1 x0 x1 x2 x3 x4 x5 x6 fB fC;refine(KU _ _ p b g (hP'.O _ hB1)).mono ?_
  rintro e W2 ⟨rfl,h2⟩;have h02:=fD h1 h2;have hB2:=fD hb0 h02;clear h2 h1 hB1;obtain⟨⟨y0,y1⟩,x0,x1,x2,x3,x4,x5,x6,fB,fC⟩:=hK.O W2 (h02);cases ht:(lK p b&&iO p g)
  ·have dw:=ah (FZ (n:=n) hc'.O (by rw[ht];rfl))
   clear ht;have fH:=hR.O _ h02;go_wp2_with (refine dU (.tmp 10) (.tmp 37) dV dV rfl fH rfl rfl (λw9 dS jg=>?_))
   have eF:=Below.gV hB2 jg;go_wp2_with fail;exact jl results68 dS rfl rfl (jJ dw.O eF)
  by_cases g2:n<0
  ·have dw:=ah (FZ (n:=n) hc'.O (by rw[ht,lQ];exact mY.2 (.inl g2)))
   clear ht;have fH:=hR.O _ h02;go_wp2_with (refine dU (.tmp 10) (.tmp 37) dV dV rfl fH rfl rfl (λw9 dS jg=>?_))
   have eF:=Below.gV hB2 jg;go_wp2_with fail;exact jl results68 dS rfl rfl (jJ dw.O eF)
  by_cases g3:200<n
  ·have dw:=ah (FZ (n:=n) hc'.O (by rw[ht,lQ];exact mY.2 (.inr g3)))
   clear ht;have fH:=hR.O _ h02;go_wp2_with (refine dU (.tmp 10) (.tmp 37) dV dV rfl fH rfl rfl (λw9 dS jg=>?_))
   have eF:=Below.gV hB2 jg;go_wp2_with fail;exact jl results68 dS rfl rfl (jJ dw.O eF)
  have gd2:decide (n<0)=false:=iE g2;have gd3:decide (200<n)=false:=iE g3;rw[dF]at ht
  obtain⟨ht1,ht2⟩:=ht;have ht1:=zA.1 ht1;have ht2:=wI.1 ht2;obtain⟨i,rfl⟩:∃i:Nat,b=i:=⟨b.toNat,by omega⟩
  obtain⟨j,rfl⟩:∃j:Nat,g=j:=⟨g.toNat,by omega⟩
  have hi:i<p.dP.length:=by omega
  have hj:j<p.aW.length:=by omega
  have hio:i<s.on.length:=by rw[hsn.O.sO];exact hi
  have hjr:j<(fO s.on i).length:=by rw[hsn.O.rowLen hi];exact hj
  have hjf:j<s.dB.length:=by rw[hsn.O.dB.1];exact hj
  have joJ:(i:Int)<(s.on.length:Int):=by omega
  have joF:(j:Int)<((fO s.on i).length:Int):=by omega
  have juC:(j:Int)<(s.dB.length:Int):=by omega
  obtain⟨Ar,cr,or0,UN,Zp,wK⟩:=(hN.O W2 hB2).row hio;obtain⟨or1,lr1,RZ⟩:=wK.at_.int hjr;change W2.cell? _=some (.int .i64 (cell s.on i j))at RZ
  obtain⟨or2,lr2,rr2⟩:=(hX.O W2 hB2).at_.int hjf;change W2.cell? _=some (.int .i64 (aZ s.dB j))at rr2
  have Aj:=hsn.O.cell hi hj;have hfx:=hsn.O.dB.2 hj;have hw1:IntKind.i64.wrap (aZ s.dB j+n)=aZ s.dB j+n:=aP _ (by omega)
  have hw2:IntKind.i64.wrap (aZ s.dB j+n - cell s.on i j)=aZ s.dB j+n - cell s.on i j:=aP _ (by omega)
  go_wp2_with fail;go_quiet (fail)
  have Rz:=below_drewN h02 nq;have hBd:=below_drewN hB2 nq;clear y0 y1 x0 x1 x2 x3 x4 x5 x6 fB fC;clear or0 UN Zp wK or1 lr1 RZ or2 lr2 rr2 hw1 hw2 h02 hB2;generalize W2.drewN nq=W3 at Rz hBd ⊢
  obtain⟨⟨y0,y1⟩,x0,x1,x2,x3,x4,x5,x6,fB,fC⟩:=hK.O W3 (Rz);by_cases g4:aZ s.dB j+n - cell s.on i j< -1048576
  ·have dw:=ah (RU hc'.O hi hj ⟨by omega,by omega⟩ (.inl g4))
   have fH:=hR.O _ Rz;go_wp2_with (refine dU (.tmp 10) (.tmp 60) dV dV rfl fH rfl rfl (λw9 dS jg=>?_))
   have eF:=Below.gV hBd jg;go_wp2_with fail;exact jl results68 dS rfl rfl (jJ dw.O eF)
  by_cases g5:1048576<aZ s.dB j+n - cell s.on i j
  ·have dw:=ah (RU hc'.O hi hj ⟨by omega,by omega⟩ (.inr g5))
   have fH:=hR.O _ Rz;go_wp2_with (refine dU (.tmp 10) (.tmp 60) dV dV rfl fH rfl rfl (λw9 dS jg=>?_))
   have eF:=Below.gV hBd jg;go_wp2_with fail;exact jl results68 dS rfl rfl (jJ dw.O eF)
  have gd4:decide (aZ s.dB j+n - cell s.on i j< -1048576)=false:=iE g4;have gd5:decide (1048576<aZ s.dB j+n - cell s.on i j)=false:=iE g5;have hcs:=ah (show Bh p s i j n from⟨hi,hj,by omega,by omega,by omega,by omega⟩)
  have dw:=ah (jdC hc'.O hcs.O);have hbd:=F6 hsn.O i j;have hw4:IntKind.i64.wrap (bound s i j - n)=bound s i j - n:=aP _ (by omega)
  have hmm:=@run_makeMap prog;go_wp2_with fail;clear y0 y1 x0 x1 x2 x3 x4 x5 x6 fB fC;clear joJ joF juC;have hmm':=ah hmm;clear hmm;refine IX 14 [rV 61 (.agg (Uy s A0 c0 A1 c1 A2 c2 A3 c3 A4 c4 A5 c5 A6 c6)),λgq w'=>(λv w'=>∃V:SV,v=V.val/\dX w' W3 V s) (gq 62) w',rV 63 (i),rV 64 (j),rV 65 (.agg (Uy s A0 c0 A1 c1 A2 c2 A3 c3 A4 c4 A5 c5 A6 c6)),rV 66 (i),rV 67 (j),λgq w'=>(λv w'=>v=.int .i64 (bound s i j)) (gq 68) w',rV 69 (n),rV 70 (.int .i64 (bound s i j - n)),λgq w'=>(λv w'=>∃mb,v=.map (some mb)/\W3.heap.size<=mb/\w'.ownsMap prog 3 (plainElem (H:=Unit) prog 3) mb 0 (.map [])) (gq 71) w',λgq w'=>(λv w'=>∃(V:SV) (mb:Nat),v=.agg #[V.on,V.ak,V.aA,V.aF,V.jf,V.O,V.dB,i,j,.int .i64 (bound s i j - n),.map (some mb)]/\dX w' W3 V s/\W3.heap.size<=mb/\w'.ownsMap prog 3 (plainElem (H:=Unit) prog 3) mb 0 (.map [])) (gq 72) w',λgq w'=>(λv w'=>∃bb,v=.pointer (some ⟨bb,0,none⟩)/\RY W3 i j (bound s i j - n) s bb w') (gq 73) w',λgq w'=>(λv w'=>∃bb,v=.pointer (some ⟨bb,0,none⟩)/\RY W3 i j (bound s i j - n) s bb w') (gq 14) w'] ?_ (λf W5 hb5 hR=>?_)
  simp only[aG,aS];refine bT.v (λgq w' hb ho hd=>?_) ?_
  ·have e6:=ho 6 rfl;obtain⟨⟨y0,y1⟩,x0,x1,x2,x3,x4,x5,x6,fB,fC⟩:=hK.O w' (fD Rz hb);go_simp
  refine bT.cons (sN.one (d:=62) (p:=(λv w'=>∃V:SV,v=V.val/\dX w' W3 V s)) rfl rfl (λv w1 w2 h hb=>let ⟨V,h1,h2⟩:=h;⟨V,h1,h2.below hb⟩) (λgq w' hb ho hd=>?_)) ?_
  ·have e61:_=_:=hd.d 0;unfold iq;go_simp
   refine(jbV w' _ p s (hV.O _ (fD hBd hb)) hsn.O).mono ?_
   rintro e w2 ⟨u,rfl,⟨V,rfl,ho2⟩,hb2⟩;exact⟨_,rfl,⟨V,rfl,ho2.from_ hb.size⟩,hb2⟩
  refine bT.v (λgq w' hb ho hd=>?_) ?_
  ·have e2:=ho 2 rfl;go_simp
  refine bT.v (λgq w' hb ho hd=>?_) ?_
  ·have e3:=ho 3 rfl;go_simp
  refine bT.v (λgq w' hb ho hd=>?_) ?_
  ·have e6:=ho 6 rfl;obtain⟨⟨y0,y1⟩,x0,x1,x2,x3,x4,x5,x6,fB,fC⟩:=hK.O w' (fD Rz hb);go_simp
  refine bT.v (λgq w' hb ho hd=>?_) ?_
  ·have e2:=ho 2 rfl;go_simp
  refine bT.v (λgq w' hb ho hd=>?_) ?_
  ·have e3:=ho 3 rfl;go_simp
  refine bT.cons (sN.one (d:=68) (p:=(λv w'=>v=.int .i64 (bound s i j))) rfl rfl (λv w1 w2 h hb=>h) (λgq w' hb ho hd=>?_)) ?_
  ·have e65:_=_:=hd.d 4;have e66:_=_:=hd.d 5;have e67:_=_:=hd.d 6;unfold iq;go_simp
   refine(jat w' _ p s i j (hV.O _ (fD hBd hb)) hsn.O).mono ?_
   rintro e w2 ⟨rfl,hb2⟩;exact⟨_,rfl,rfl,hb2⟩
  refine bT.v (λgq w' hb ho hd=>?_) ?_
  ·have e4:=ho 4 rfl;go_simp
  refine bT.v (λgq w' hb ho hd=>?_) ?_
  ·have e68:(gq 68)=(bound s i j):=hd.d 7;have e69:_=_:=hd.d 8;go_simp
  refine bT.cons (sN.one (d:=71) (p:=(λv w'=>∃mb,v=.map (some mb)/\W3.heap.size<=mb/\w'.ownsMap prog 3 (plainElem (H:=Unit) prog 3) mb 0 (.map []))) rfl rfl (λv w1 w2 h hb=>let ⟨mb,h1,h2,h3⟩:=h;⟨mb,h1,h2,h3.kept (kW (row:=none) hb) (by simp)⟩) (λgq w' hb ho hd=>?_)) ?_
  ·have hmm:=hmm'.O;unfold iq;go_simp
   exact⟨⟨hb.size,World.ownsMap_made _ _ _ _⟩,(aj _ _).alloc (ay _) _⟩
  refine bT.cons (sN.one (d:=72) (p:=(λv w'=>∃(V:SV) (mb:Nat),v=.agg #[V.on,V.ak,V.aA,V.aF,V.jf,V.O,V.dB,i,j,.int .i64 (bound s i j - n),.map (some mb)]/\dX w' W3 V s/\W3.heap.size<=mb/\w'.ownsMap prog 3 (plainElem (H:=Unit) prog 3) mb 0 (.map []))) rfl rfl (λv w1 w2 h hb=>let ⟨V,mb,h1,h2,h3,h4⟩:=h;⟨V,mb,h1,h2.below hb,h3,h4.kept (kW (row:=none) hb) (by simp)⟩) (λgq w' hb ho hd=>?_)) ?_
  ·have e62:∃V:SV,(gq 62)=V.val/\dX w' W3 V s:=hd.d 1;have e63:_=_:=hd.d 2;have e64:_=_:=hd.d 3;have e70:_=_:=hd.d 9;have e71:∃mb,(gq 71)=.map (some mb)/\W3.heap.size<=mb/\w'.ownsMap prog 3 (plainElem (H:=Unit) prog 3) mb 0 (.map []):=hd.d 10;obtain⟨⟨k0,k1,k2,k3,k4,k5,k6,k7,k8⟩,e62,ho2⟩:=e62;simp only[SV.val]at e62
   obtain⟨mb,e71,hmb,mQ⟩:=e71;have jot:=ah ho2;have hown':=ah mQ;have jlU:=ah hmb;clear ho2 mQ hmb;unfold iq;go_simp
   refine⟨⟨⟨k0,k1,k2,k3,k4,k5,k6,k7,k8⟩,mb,by simp,jot.O,jlU.O,hown'.O⟩,aj _ _⟩
  refine bT.cons (sN.one (d:=73) (p:=(λv w'=>∃bb,v=.pointer (some ⟨bb,0,none⟩)/\RY W3 i j (bound s i j - n) s bb w')) rfl rfl (λv w1 w2 h hb=>let ⟨bb,h1,V,mb,h2,h3,h4,h5⟩:=h;⟨bb,h1,V,mb,h2.below hb,h3,h4,h5.kept (kW (row:=none) hb) (by simp)⟩) (λgq w' hb ho hd=>?_)) ?_
  ·have e72:∃(V:SV) (mb:Nat),(gq 72)=.agg #[V.on,V.ak,V.aA,V.aF,V.jf,V.O,V.dB,i,j,.int .i64 (bound s i j - n),.map (some mb)]/\dX w' W3 V s/\W3.heap.size<=mb/\w'.ownsMap prog 3 (plainElem (H:=Unit) prog 3) mb 0 (.map []):=hd.d 11;obtain⟨⟨k0,k1,k2,k3,k4,k5,k6,k7,k8⟩,mb,e72,ho2,hmb,mQ⟩:=e72;simp only at e72
   have jot:=ah ho2;have hown':=ah mQ;have jlU:=ah hmb;have hbz:=ah hb.size;clear ho2 mQ hmb;unfold iq;go_simp
   exact⟨⟨⟨k0,k1,k2,k3,k4,k5,k6,k7,k8⟩,mb,⟨iJ.new _ _ _,(jot.O).alloc _,jgv⟩,hbz.O,jlU.O,hown'.O.alloc _⟩,(aj _ _).alloc (ay _) _⟩
  refine bT.cons (sN.one (d:=14) (p:=(λv w'=>∃bb,v=.pointer (some ⟨bb,0,none⟩)/\RY W3 i j (bound s i j - n) s bb w')) rfl rfl (λv w1 w2 h hb=>let ⟨bb,h1,V,mb,h2,h3,h4,h5⟩:=h;⟨bb,h1,V,mb,h2.below hb,h3,h4,h5.kept (kW (row:=none) hb) (by simp)⟩) (λgq w' hb ho hd=>?_)) ?_
  ·have e73:∃bb,(gq 73)=.pointer (some ⟨bb,0,none⟩)/\RY W3 i j (bound s i j - n) s bb w':=hd.d 12;obtain⟨bb,e73,hcb⟩:=e73;have hcb':=ah hcb;clear hcb;unfold iq;go_simp
   exact⟨hcb'.O,aj _ _⟩
  exact bT.nil;obtain⟨r61,r62,r63,r64,r65,r66,r67,r68,r69,r70,r71,r72,r73,TK,_⟩:=hR;replace r62:∃V:SV,(f 62)=V.val/\dX W5 W3 V s:=r62;replace r68:(f 68)=(bound s i j):=r68;replace r71:∃mb,(f 71)=.map (some mb)/\W3.heap.size<=mb/\W5.ownsMap prog 3 (plainElem (H:=Unit) prog 3) mb 0 (.map []):=r71;replace r72:∃(V:SV) (mb:Nat),(f 72)=.agg #[V.on,V.ak,V.aA,V.aF,V.jf,V.O,V.dB,i,j,.int .i64 (bound s i j - n),.map (some mb)]/\dX W5 W3 V s/\W3.heap.size<=mb/\W5.ownsMap prog 3 (plainElem (H:=Unit) prog 3) mb 0 (.map []):=r72;replace r73:∃bb,(f 73)=.pointer (some ⟨bb,0,none⟩)/\RY W3 i j (bound s i j - n) s bb W5:=r73;replace TK:∃bb,(f 14)=.pointer (some ⟨bb,0,none⟩)/\RY W3 i j (bound s i j - n) s bb W5:=TK;simp only[kP,qJ,aG,aS,bU,dH,bY,cO,dA,dL,aQ,bG,bH,r61,r63,r64,r65,r66,r67,r68,r69,r70];clear r61 r63 r64 r65 r66 r67 r68 r69 r70;obtain⟨bx,TK,V,mb,hx5,hbx,hmb,mQ⟩:=TK;simp only[TK];clear TK r62 r71 r72 r73;refine eP ?_
  have h05:=fD Rz hb5;have hle:w.heap.size<=W3.heap.size:=hBd.size;have hle0:W0.heap.size<=W3.heap.size:=Rz.size;have ji1:=ah hx5;have hown':=ah mQ;have hbx5:=hx5.lt;clear hx5 mQ Rz hBd hb5 hmm' hw4;generalize W3.heap.size=aT at ji1 hbx hmb hle hle0
  obtain⟨gf,cf,jvK,ef,joO,hbf,rf⟩:=dX.CU ji1.O.own.dB (g:=j) (by rw[hsn.O.dB.1];exact hj)
  have c6:=ji1.O.cells.2.2.2.2.2.2;rw[ef]at c6
  have ef':=ah ef;clear ef;go_wp2_with (refine UA rfl (.tmp 81) (.tmp 80) rfl rfl (g:=j) (q:=aZ s.dB j+n - cell s.on i j) ji1.O (by rw[hsn.O.dB.1];exact hj) ef'.O rfl rfl (λw6 hx6 OO=>?_);refine bD ?_)
  unfold Hid;have hown6:=BQ hown'.O OO (λh=>DZ hown'.O hbf h)
  have h06:=h05.trans (OO.below (B:=W0.heap.size) (λq hq=>by omega) h05.size)
  have Xq:=ah hx6;have jeS:=ah hown6;clear hx6 OO hown6 hown' ji1 h05 c6 rf hbf ef' joO;obtain⟨Jw,con,RS,gr,cr,cur,RJ,XB,OX,r0,er,XA,hbr,rc⟩:=Xq.O.own.QZ (b:=i) (g:=j) hio hjr;have c0:=Xq.O.cells.1;rw[RJ]at c0
  change w6.cell? _=some (.slice _ (fO s.on i).length _)at r0
  change w6.cell? _=some (.slice _ s.on.length _)at c0
  have er':=ah er;clear RJ er OX;have joJ:(i:Int)<(s.on.length:Int):=by omega
  have joF:(j:Int)<((fO s.on i).length:Int):=by omega
  go_wp2_with (refine Ir rfl (.tmp 92) (.tmp 91) rfl rfl (i:=i) (g:=j) (q:=n) Xq.O hio hjr er'.O rfl rfl (λw7 hx7 Dy=>?_);refine bD ?_)
  unfold Hid;have zk:=BQ jeS.O Dy (λh=>DZ jeS.O hbr h)
  have h07:=h06.trans (Dy.below (B:=W0.heap.size) (λq hq=>by omega) h06.size)
  have zT:=ah hx7;have ja0:=ah zk;clear hx7 Dy zk jeS Xq h06 c0 r0 rc hbr er' XB XA joJ joF;have jox:=ah (show ∀x∈s.aF,1<=x.n/\x.n<=200 from λx hx=>by
   obtain⟨q,hq,rfl⟩:=bg hx;have:=hsn.O.bZ hq;rw[pJ hq]at this
   exact⟨this.2.2.2.2.1,this.2.2.2.2.2⟩)
  have hmid:=iw.Xe (C:=Ju i j) (l:=s.aF) (λx hx=>by have:=(jox.O x hx).1;show 0<=x.n;omega) (bound s i j - n) 0
  have hm8:=hsn.O.uf;go_wp2_with fail;refine(jmu w7 zT.O (by omega) hm8 jox.O (by omega)).mono ?_
  rintro e w8 ⟨rfl,V8,hV8,MC,BX⟩;have jjm:=BQ ja0.O BX (λh=>h.elim (λh=>DZ ja0.O zT.O.box h) (λh=>by
   obtain⟨cur,hcb⟩:=zT.O.own.aF.block h;obtain⟨o',ho1,ho2⟩:=KX ja0.O;rw[hcb]at ho1
   injection ho1 with ho1
   subst ho1;cases ho2))
  have BG:=h07.trans (BX.below (B:=W0.heap.size) (λq hq=>by
   rcases hq with rfl|hq
   ·omega
   ·have:=(zT.O.own.aF.size q hq).1;omega) h07.size)
  have wJ:=ah MC;have jjl:=ah jjm;have hin:=ah (show ∀q (hq:q<s.aA.length),∃o k:Nat,s.aA[q].aC=o/\s.aA[q].aK=k/\o<s.ak.length/\k<(s.aC o).aH.length from λq hq=>by
   have:=hsn.O.yL hq;rw[iZ hq]at this
   obtain⟨⟨a1,a2⟩,⟨a3,a4⟩,_⟩:=this;refine⟨s.aA[q].aC.toNat,s.aA[q].aK.toNat,by omega,by omega,by omega,by omega⟩)
  have hbk:=ah (show ∀o k:Nat,o<s.ak.length->k<(s.aC o).aH.length->0<=(s.aK o k).eU/\(s.aK o k).eU<=200 from λo k ho hk=>by
   have:=hsn.O.aK ho hk;omega)
  have jrO:=aJ jjm.lt (ay _);clear MC BX jjm ja0 zT h07;go_wp2_with fail;refine(jmx w8 wJ.O hbx jrO hmb jjl.O hsn.O.aA (by omega) hin.O hbk.O).mono ?_
  rintro e w9 ⟨rfl,V9,ov9,D,hV9,Gq,uQ,jnl,jcR⟩;have jjN:=jhv (b:=i) (g:=j) (jy:=n) hsn.O;have Eh:Bx w9 aT bx 152 (Gy i j ov9 (.map (some mb))) V9 (xk s i j n (over s i j n)):=by rw[jjN];exact Gq
  have hcH:pW s i j (over s i j n)=(yM s i j).rest s.aA ((Ju i j).mid s.aF (bound s i j - n) 0).2:=nO aI.aA jjN;have h09:=BG.trans (uQ.below (B:=W0.heap.size) (λq hq=>by
   rcases hq with rfl|hq|rfl|⟨o,ho,hq⟩
   ·omega
   ·have:=(wJ.O.own.aA.size q hq).1;omega
   ·omega
   ·have:=((wJ.O.own.aK o (by rw[<- wJ.O.own.llen];exact ho)).size q hq).1
    omega) BG.size)
  obtain⟨s1,hs1⟩:∃s1:aI,s1={s with on:=setCell s.on i j n,dB:=s.dB.set j (aZ s.dB j+n - cell s.on i j),aF:=(Ju i j).rest s.aF (bound s i j - n)}:=⟨_,rfl⟩
  have jjt:wM s1 i j (pW s i j (over s i j n)) 0 D:=by rw[hcH,hs1];exact jnl
  have h1:s1.aA=s.aA:=by rw[hs1]
  have h2:yM s1 i j=yM s i j:=by rw[hs1];rfl
  have hmp:=ah jjt;have h1':=ah h1;have h2':=ah h2;have jeK:=ah Eh;have hlenh:s.aA.length<=72:=qH hsn.O.aA;have Uf:=ah jcR;have jsQ:=ah (show Maps.size D<=1000000 from aU jcR.size_le (by show s.aA.length<=1000000;omega))
  have hoL:=ah (show s.ak.length<=4 from hsn.O.nX)
  have z9:=Eh.box.cell (j:=10) rfl;have lb9:=Eh.lt;clear jjN hcH jnl jjt h1 h2 hs1 Gq Eh uQ jcR BG wJ jjl hV9 hV8 jrO hin hbk hmid jox;go_wp2_with fail;refine(keysOf (some mb) w9).mono ?_
  rintro e w10 ⟨rfl,rfl⟩;go_wp2_with fail;refine(jd3 mb _ D _ w9 Uf.O jsQ.O).mono ?_
  rintro e w11 ⟨vk,ss,rfl,hperm,wK,jsr⟩;have hks:=jcz hsn.O hmp.O h1'.O Uf.O hperm;have hkl:ss.length=(kM s D).length:=by
   have:=nO List.length hks;rw[List.length_mergeSort]at this
   rw[this];unfold yI;exact gX ..
  have hvk:Own iW 1 3 w11 (w9.heap.size+1) vk (yI (kM s D)):=by
   rw[hks,hkl]at wK
   unfold Own;have e1:(yI (kM s D)).length=(kM s D).length:=by unfold yI;exact gX ..
   have e2:(yI (kM s D)).flatMap iW=(yI (kM s D)).map encZ:=by
    induction yI (kM s D)with
    |nil=>rfl
    |cons y r ih=>simp[iW,ih]
   rw[e1,e2];rw[dK]at wK
   exact wK
  have jc5:Below w9 w9 w11:=((aj _ w9).alloc (ay _) _).trans (jsr.mono (by simp))
  obtain⟨Ak,ck,jrr⟩:=hvk.isSlice;have hnl:(yI (kM s D)).length=(kM s D).length:=by unfold yI;exact gX ..
  rw[hnl]at jrr
  subst jrr;have jn7:=ah hvk;obtain⟨ksT,jrV⟩:∃ksT:Nat->Prop,ksT=λq=>q=bx\/∃o,o<V9.aH.length/\(V9.aK o).ownBlock=some q:=⟨_,rfl⟩
  have hkT:=ah (show ∀q,ksT q->aT<=q/\q<w9.heap.size/\q≠mb from λq hq=>by
   rw[jrV]at hq
   rcases hq with rfl|⟨o,ho,hq⟩
   ·exact⟨hbx,lb9,λh=>DZ Uf.O jeK.O.box h.symm⟩
   ·have hsz:=(jeK.O.own.aK o (by rw[<- jeK.O.own.llen];exact ho)).size q hq
    refine⟨hsz.1,hsz.2,λh=>?_⟩
    obtain⟨cur,hcb⟩:=(jeK.O.own.aK o (by rw[<- jeK.O.own.llen];exact ho)).block hq
    obtain⟨o',ho1,ho2⟩:=KX Uf.O;rw[<- h,hcb]at ho1
    injection ho1 with ho1
    subst ho1;cases ho2)
  have h011:=fD h09 jc5;have YO:=ah (show Bx w11 aT bx 152 (Gy i j ov9 (.map (some mb))) V9 (OI p s i j n D 0)from jeK.O.below jc5)
  have jeT:=ah (Uf.O.kept (kW (row:=none) jc5) (by simp))
  have hKl:(kM s D).length<=12:=by
   unfold kM;refine aU (kR _ _) ?_
   rw[List.length_range];have:=hoL.O;omega
  have jut:aT<=w9.heap.size:=by omega
  have h9s:=jc5.size;clear hks hkl hvk wK hperm hnl z9 jsr jeK Uf h09 jc5 jsQ;generalize w9.heap.size=z9 at jn7 hkT lb9 jut h9s ⊢
  go_wp2_with fail;have hmp2:=hmp;go_loopw[104] (λq' wr=>∃(q:Nat) (V':SV),q<=(kM s D).length/\q'=.int .i64 q/\V'={V9 with aA:=V'.aA}/\Bx wr aT bx 152 (Gy i j ov9 (.map (some mb))) V' (OI p s i j n D q)/\Step ksT w11 wr) (λq' _=>(kM s D).length - (RowKit.intOf q').toNat)
  case atStart=>exact⟨0,V9,aN _,rfl,rfl,YO.O,Step.refl _ _⟩
  case round=>
   obtain⟨q,V',hq,rfl,hV',hx,hst⟩:=hrel;have hV2:=ah hV';have hst':=ah hst;have hx':=ah hx;have h0r:=h011.trans (hst.below (B:=W0.heap.size) (λk hk=>by have:=(hkT.O k hk).1;omega) h011.size)
   have hBr:=fD hb0 h0r;clear hV' hst hx;by_cases hq1:q<(kM s D).length
   ·have hqi:(q:Int)<((kM s D).length:Int):=by omega
    obtain⟨gk,ck',curk,ek,_,_,rk⟩:=dX.CU (jn7.O.step hst'.O (λk hk hh=>by have:=(jn7.O.size k hk).1;have:=(hkT.O k hh).2.1;omega)) (g:=q) (by unfold yI;rw[gX];exact hq1)
    rw[jaO hq1]at rk
    injection ek with ek ek2 ek3
    clear ek2 ek3;subst ek;obtain⟨kq,hkq⟩:∃kq,(kM s D)[q]=kq:=⟨_,rfl⟩;have hkm:=jaT hq1;have hmay:=ah (jlF hc'.O hcs.O hmp.O h1'.O h2'.O hq1);have AY:=ah (Xm (p:=p) (i:=i) (j:=j) (n:=n) hq1);rw[hkq]at rk hkm hmay AY
    have hkv:=ah (λz=>jlE hmp.O h1'.O hkm.1 z)
    have hoL':=hoL.O;have hkq12:kq<12:=by omega
    have hkqh:=ah hkq;clear hkq;go_wp2_with fail;have z10:=hx'.O.box.cell (j:=10) rfl;have lbr:=hx'.O.lt;have hownr:=ah (BQ jeT.O hst'.O (λhh=>(hkT.O mb hh).2.2 rfl))
    have yg:keyOf prog 3 ((kq:Int))=some (Nv (kq:Int)):=jiU (by omega)
    obtain⟨nv,hnv⟩:∃nv:Int,rF s i j (over s i j n) ((kq / 3:Nat):Int) ((kq%3:Nat):Int)=nv:=⟨_,rfl⟩;rw[hnv]at hkv hmay AY
    have hlook:=ah (show ∀w',Below wr wr w'->(Instr.lookup 150 (.map (some mb)) ((kq:Int)) false).run prog w'=.ok (nv) w' from λw' hb=>by
     obtain⟨c,h1,h2,_⟩:=(hownr.O.kept (kW (row:=none) hb) (by simp)).lookup_int jaR underlying150 underlying3 (jfH w') yg
     rw[hkv.O]at h2
     injection h2 with h2
     injection h2 with _ h2
     rw[<- h2]at h1
     exact h1)
    have hd3:IntKind.i64.wrap ((kq:Int) / 3)=(kq:Int) / 3:=aP _ (by omega)
    have hm3:IntKind.i64.wrap ((kq:Int)%3)=(kq:Int)%3:=aP _ (by omega)
    have hm4:(kq:Int).tmod 3=(kq:Int)%3:=Int.tmod_eq_emod_of_nonneg (by omega)
    have hnvh:=ah hnv;clear hnv hkv yg rk;refine IX 15 [rV 108 (.agg (xu p Ab cb As cs)),rV 109 (.pointer (some bx)),rV 110 (.pointer (some bx)),rV 111 (.pointer (some bx)),rV 112 (kq),rV 113 (.int .i64 ((kq:Int) / 3)),rV 114 (kq),rV 115 (.int .i64 ((kq:Int)%3)),rV 116 (.pointer (some bx)),rV 117 (.pointer (some bx)),rV 118 (.pointer (some ⟨bx,10,none⟩)),rV 119 (.map (some mb)),rV 120 (kq),rV 121 (nv),rV 122 (i)] ?_ (λf W5 hb5 hR=>?_)
    simp only[aG,aS];refine bT.v (λgq w' hb ho hd=>?_) ?_
    ·have e5:=ho 5 rfl;obtain⟨⟨y0,y1⟩,x0,x1,x2,x3,x4,x5,x6,fB,fC⟩:=hK.O w' (fD h0r hb);go_simp
    refine bT.v (λgq w' hb ho hd=>?_) ?_
    ·have e14:=ho 14 rfl;go_simp
    refine bT.v (λgq w' hb ho hd=>?_) ?_
    ·have e109:_=_:=hd.d 1;go_simp
    refine bT.v (λgq w' hb ho hd=>?_) ?_
    ·have jvE:_=_:=hd.d 2;go_simp
    refine bT.v (λgq w' hb ho hd=>?_) ?_
    ·have e16:=ho 16 rfl;go_simp
    refine bT.v (λgq w' hb ho hd=>?_) ?_
    ·have jpy:_=_:=hd.d 4;go_simp
    refine bT.v (λgq w' hb ho hd=>?_) ?_
    ·have e16:=ho 16 rfl;go_simp
    refine bT.v (λgq w' hb ho hd=>?_) ?_
    ·have e114:_=_:=hd.d 6;go_simp
    refine bT.v (λgq w' hb ho hd=>?_) ?_
    ·have e14:=ho 14 rfl;go_simp
    refine bT.v (λgq w' hb ho hd=>?_) ?_
    ·have e116:_=_:=hd.d 8;go_simp
    refine bT.v (λgq w' hb ho hd=>?_) ?_
    ·have e117:_=_:=hd.d 9;go_simp
    refine bT.v (λgq w' hb ho hd=>?_) ?_
    ·have e118:_=_:=hd.d 10;have x1:=(hb.cell (p:=⟨bx,10,none⟩) lbr).trans z10;go_simp
    refine bT.v (λgq w' hb ho hd=>?_) ?_
    ·have e16:=ho 16 rfl;go_simp
    refine bT.v (λgq w' hb ho hd=>?_) ?_
    ·have e119:_=_:=hd.d 11;have e120:_=_:=hd.d 12;have e3:=hlook.O w' hb;simp only[execOp,jF,e119,e120,iP,e3,Result.andThen,jc]
    refine bT.v (λgq w' hb ho hd=>?_) ?_
    ·have e2:=ho 2 rfl;go_simp
    exact bT.nil;simp only[Jh]at hR
    simp only[kP,qJ,aG,aS,bU,dH,bY,cO,dA,dL,aQ,bG,bH,hR];clear hR;have hq3:(kq:Int) / 3=((kq / 3:Nat):Int):=by omega
    have hr3:(kq:Int)%3=((kq%3:Nat):Int):=by omega
    rw[hq3,hr3];have h05:=fD h0r hb5;have YV:=fD hb0 h05;have hx5:=ah (hx'.O.below hb5);clear hq3 hr3 hd3 hm3 hm4 z10;go_wp2_with fail;refine(jfG W5 _ p _ (kq / 3) (kq%3) nv i (hP'.O _ YV) hmay.O.1 hmay.O.2 hx5.O (by have:=hst'.O.size;have:=hb5.size;omega)).mono ?_
    rintro e w6 ⟨rfl,V6,hV6,hx6,OO⟩;have jrC:Step ksT wr w6:=(Step.of_below hb5).trans (OO.mono λk hk=>by
     rw[jrV];rcases hk with rfl|hk
     ·exact .inl rfl
     ·refine .inr ⟨kq / 3,?_,by rw[hV2.O]at hk;exact hk⟩
      have:=hx'.O.own.llen;rw[hV2.O]at this
      rw[this];exact hmay.O.2.ho)
    go_wp2_with fail;go_roundw
    case rel=>exact⟨q+1,V6,by omega,by go_num,by rw[hV6,hV2.O],by rw[AY.O];exact hx6,hst'.O.trans jrC⟩
    case measure=>simp[dY];omega
   ·obtain rfl:q=(kM s D).length:=by omega
    have kQ:=ah (jgX hc'.O hcs.O hmp.O h1'.O h2'.O);have fH:=hR.O _ h0r;obtain⟨b0,b1,b2,b3,b4,b5,b6⟩:=hx'.O.cells;have lT:=hx'.O.own.one;go_wp2_with (refine dU (.tmp 10) (.tmp 128) dV V' rfl fH rfl lT (λw9 dS jg=>?_))
    have wO:=hx'.O.own.keptBy jg fH;have eF:=Below.gV hBr jg;clear b0 b1 b2 b3 b4 b5 b6;go_wp2_with fail;exact jl results68 dS rfl rfl (F7 dw.O ((kQ.O ▸ wO).from_ hle) eF)
 ·have hne:(aO p s !=0)=true:=by simpa using hc
  have dw:=ah (jaa (b:=b) (g:=g) (n:=n) hc);clear hc;have fH:=hR.O _ h1;go_wp2_with (refine dU (.tmp 10) (.tmp 22) dV dV rfl fH rfl rfl (λw9 dS jg=>?_))
  have eF:=Below.gV hB1 jg;go_wp2_with fail;exact jl results68 dS rfl rfl (jJ dw.O eF)
end
end Wh
namespace Wh
open Go Go.RowKit Go.Shelf Go.Proofs Tryz
section
attribute [local go_sem] aV jF iY jI
theorem jhE(w:World)(p:dG)(s:aI)(Ab:Option Addr)(cb:Nat)(As:Option Addr)(cs:Nat)(A0:Option Addr)(c0:Nat)(A1:Option Addr)(c1:Nat)(A2:Option Addr)(c2:Nat)(A3:Option Addr)(c3:Nat)(A4:Option Addr)(c4:Nat)(A5:Option Addr)(c5:Nat)(A6:Option Addr)(c6:Nat)(kd xa xb xc xn:Int)(Al:Option Addr)(ln cl:Nat):
  ∃W0:World,((w.alloc (kD p Ab cb As cs)).alloc (kV s A0 c0 A1 c1 A2 c2 A3 c3 A4 c4 A5 c5 A6 c6)).alloc (.cells #[kd,xa,xb,xc,xn,.slice Al ln cl] 81)=W0/\Below w w W0/\Hid (W0.heap.size=w.heap.size+1+1+1)/\
   Hid (∀W,Below W0 W0 W->(W.cell? w=some (.slice Ab p.dP.length cb)/\W.cell? ⟨w.heap.size,1,none⟩=some (.slice As p.aW.length cs))/\W.cell? ⟨w.heap.size+1,0,none⟩=some (.slice A0 s.on.length c0)/\W.cell? ⟨w.heap.size+1,1,none⟩=some (.slice A1 s.ak.length c1)/\W.cell? ⟨w.heap.size+1,2,none⟩=some (.slice A2 s.aA.length c2)/\W.cell? ⟨w.heap.size+1,3,none⟩=some (.slice A3 s.aF.length c3)/\W.cell? ⟨w.heap.size+1,4,none⟩=some (.slice A4 s.jf.length c4)/\W.cell? ⟨w.heap.size+1,5,none⟩=some (.slice A5 s.O.length c5)/\W.cell? ⟨w.heap.size+1,6,none⟩=some (.slice A6 s.dB.length c6)/\w.heap.size+1<W.heap.size/\w.heap.size<W.heap.size)/\
   Hid (∀W,Below W0 W0 W->W.cell? ⟨w.heap.size+1+1,0,none⟩=some (.int .i64 kd)/\W.cell? ⟨w.heap.size+1+1,1,none⟩=some (.int .i64 xa)/\W.cell? ⟨w.heap.size+1+1,2,none⟩=some (.int .i64 xb)/\W.cell? ⟨w.heap.size+1+1,3,none⟩=some (.int .i64 xc)/\W.cell? ⟨w.heap.size+1+1,4,none⟩=some (.int .i64 xn)/\W.cell? ⟨w.heap.size+1+1,5,none⟩=some (.slice Al ln cl)/\w.heap.size+1+1<W.heap.size):=by
 obtain⟨W1,e1,b1,s1,s2,s3,hK⟩:=uT w p s Ab cb As cs A0 c0 A1 c1 A2 c2 A3 c3 A4 c4 A5 c5 A6 c6;rw[e1];have e3:W1.heap.size=w.heap.size+1+1:=s3;have ha:Below W1 W1 (W1.alloc (.cells #[kd,xa,xb,xc,xn,.slice Al ln cl] 81)):=(aj _ _).alloc (ay _) _;have h1:iJ (W1.alloc (.cells #[kd,xa,xb,xc,xn,.slice Al ln cl] 81)) W1 81 [kd,xa,xb,xc,xn,.slice Al ln cl]:=iJ.new _ _ _;rw[e3]at h1
 refine⟨_,rfl,fD b1 ha,ah (by simp[e3]),ah λW hW=>vV hK W (fD ha hW),ah λW hW=>?_⟩
 have k:=h1.below hW (by simp;omega)
 exact⟨k.cell rfl,k.cell rfl,k.cell rfl,k.cell rfl,k.cell rfl,k.cell rfl,k.lt⟩
theorem yY(w:World)(p:dG)(s:aI)(Ab:Option Addr)(cb:Nat)(As:Option Addr)(cs:Nat)(A0:Option Addr)(c0:Nat)(A1:Option Addr)(c1:Nat)(A2:Option Addr)(c2:Nat)(A3:Option Addr)(c3:Nat)(A4:Option Addr)(c4:Nat)(A5:Option Addr)(c5:Nat)(A6:Option Addr)(c6:Nat)(kd xa xb xc xn:Int)(Al:Option Addr)(ln cl:Nat):
  ∃W0:World,(((w.alloc (kD p Ab cb As cs)).alloc (kV s A0 c0 A1 c1 A2 c2 A3 c3 A4 c4 A5 c5 A6 c6)).alloc (.cells #[kd,xa,xb,xc,xn,.slice Al ln cl] 81)).alloc (.cells TL 40)=W0/\Below w w W0/\Hid (W0.heap.size=w.heap.size+1+1+1+1)/\
   Hid (∀W,Below W0 W0 W->(W.cell? w=some (.slice Ab p.dP.length cb)/\W.cell? ⟨w.heap.size,1,none⟩=some (.slice As p.aW.length cs))/\W.cell? ⟨w.heap.size+1,0,none⟩=some (.slice A0 s.on.length c0)/\W.cell? ⟨w.heap.size+1,1,none⟩=some (.slice A1 s.ak.length c1)/\W.cell? ⟨w.heap.size+1,2,none⟩=some (.slice A2 s.aA.length c2)/\W.cell? ⟨w.heap.size+1,3,none⟩=some (.slice A3 s.aF.length c3)/\W.cell? ⟨w.heap.size+1,4,none⟩=some (.slice A4 s.jf.length c4)/\W.cell? ⟨w.heap.size+1,5,none⟩=some (.slice A5 s.O.length c5)/\W.cell? ⟨w.heap.size+1,6,none⟩=some (.slice A6 s.dB.length c6)/\w.heap.size+1<W.heap.size/\w.heap.size<W.heap.size)/\
   Hid (∀W,Below W0 W0 W->W.cell? ⟨w.heap.size+1+1,0,none⟩=some (.int .i64 kd)/\W.cell? ⟨w.heap.size+1+1,1,none⟩=some (.int .i64 xa)/\W.cell? ⟨w.heap.size+1+1,2,none⟩=some (.int .i64 xb)/\W.cell? ⟨w.heap.size+1+1,3,none⟩=some (.int .i64 xc)/\W.cell? ⟨w.heap.size+1+1,4,none⟩=some (.int .i64 xn)/\W.cell? ⟨w.heap.size+1+1,5,none⟩=some (.slice Al ln cl)/\w.heap.size+1+1<W.heap.size)/\Hid (∀W,Below W0 W0 W->jB W (w.heap.size+1+1+1) dV):=by
 obtain⟨W1,e1,b1,s3,hK,hD⟩:=jhE w p s Ab cb As cs A0 c0 A1 c1 A2 c2 A3 c3 A4 c4 A5 c5 A6 c6 kd xa xb xc xn Al ln cl;rw[e1];have e3:W1.heap.size=w.heap.size+1+1+1:=s3;have ha:Below W1 W1 (W1.alloc (.cells TL 40)):=(aj _ _).alloc (ay _) _;have h1:iJ (W1.alloc (.cells TL 40)) W1 40 [nS,nS,nS,nS,nS,nS,nS]:=iJ.new _ _ _;rw[e3]at h1
 exact⟨_,rfl,fD b1 ha,ah (by simp[e3]),ah λW hW=>vV hK W (fD ha hW),ah λW hW=>vV hD W (fD ha hW),ah λW hW=>h1.below hW (by simp;omega)⟩
theorem jtR(w:World)(v vs vd:Value)(p:dG)(s:aI)(x:Qw)(hp:kK w w v p)(hv:kG w w vs s)(hd:Yo w w vd x):
  Calls prog 38 #[v,vs,vd] w (nN (act p s x) w):=by
 obtain⟨Ab,cb,As,cs,rfl,hP',hBn,hSz,hlb,hls⟩:=o9 hp;obtain⟨A0,c0,A1,c1,A2,c2,A3,c3,A4,c4,A5,c5,A6,c6,rfl,hV,hN,hO,hH,hM,hI,hU,hX,hl0,hl1,hl2,hl3,hl4,hl5,Jb⟩:=lY hv;obtain⟨Al,cl,rfl,hDV,hLn,hll⟩:=SC hd;obtain⟨kd,xa,xb,xc,xn,l⟩:=x;simp only at hDV hLn hll ⊢
 clear hd hp hv;by_cases k1:kd=1
 ·rw[show act p s ⟨kd,xa,xb,xc,xn,l⟩=rD p s xa xb xn by rw[k1];rfl]
  have q1:(kd==1)=true:=by simpa using k1
  clear k1;go_enter func38,ntmps38
  go_wp2_with fail;obtain⟨W0,hW0,hb0,hsE,hK,hD,hR⟩:=yY w p s Ab cb As cs A0 c0 A1 c1 A2 c2 A3 c3 A4 c4 A5 c5 A6 c6 kd xa xb xc xn Al l.length cl;rw[hW0];clear hW0;refine(jb4 _ _ _ p s xa xb xn (hP'.O _ hb0) (hV.O _ hb0)).mono ?_
  rintro e W1 ⟨V1,rfl,ho1,hb1⟩;have fH:=hR.O _ hb1;have lT:=dX.one ho1;go_wp2_with (refine dU (.tmp 6) (.tmp 21) dV V1 rfl fH rfl lT (λw9 dS jg=>?_))
  have wO:=dX.keptBy ho1 jg fH;have hB1:=fD hb0 hb1;have hle:=hb0.size;have eF:=Below.gV hB1 jg;go_wp2_with fail;exact jl results38 dS rfl rfl (show nN (rD p s xa xb xn) w _ w9 from⟨V1,rfl,wO.from_ hle,eF⟩)
 have q1:(kd==1)=false:=by simpa using k1
 by_cases k2:kd=2
 ·rw[show act p s ⟨kd,xa,xb,xc,xn,l⟩=enter p s l by rw[k2];rfl]
  have q2:(kd==2)=true:=by simpa using k2
  clear k1 k2;go_enter func38,ntmps38
  go_wp2_with fail;obtain⟨W0,hW0,hb0,hsE,hK,hD,hR⟩:=yY w p s Ab cb As cs A0 c0 A1 c1 A2 c2 A3 c3 A4 c4 A5 c5 A6 c6 kd xa xb xc xn Al l.length cl;rw[hW0];clear hW0;refine(jgJ _ _ _ _ p s l (hP'.O _ hb0) (hV.O _ hb0) (hLn.O _ hb0)).mono ?_
  rintro e W1 ⟨V1,rfl,ho1,hb1⟩;have fH:=hR.O _ hb1;have lT:=dX.one ho1;go_wp2_with (refine dU (.tmp 6) (.tmp 30) dV V1 rfl fH rfl lT (λw9 dS jg=>?_))
  have wO:=dX.keptBy ho1 jg fH;have hB1:=fD hb0 hb1;have hle:=hb0.size;have eF:=Below.gV hB1 jg;go_wp2_with fail;exact jl results38 dS rfl rfl (show nN (enter p s l) w _ w9 from⟨V1,rfl,wO.from_ hle,eF⟩)
 have q2:(kd==2)=false:=by simpa using k2
 by_cases k3:kd=3
 ·rw[show act p s ⟨kd,xa,xb,xc,xn,l⟩=zO p s by rw[k3];rfl]
  have q3:(kd==3)=true:=by simpa using k3
  clear k1 k2 k3;go_enter func38,ntmps38
  go_wp2_with fail;obtain⟨W0,hW0,hb0,hsE,hK,hD,hR⟩:=yY w p s Ab cb As cs A0 c0 A1 c1 A2 c2 A3 c3 A4 c4 A5 c5 A6 c6 kd xa xb xc xn Al l.length cl;rw[hW0];clear hW0;refine(jgx _ _ _ p s (hP'.O _ hb0) (hV.O _ hb0)).mono ?_
  rintro e W1 ⟨V1,rfl,ho1,hb1⟩;have fH:=hR.O _ hb1;have lT:=dX.one ho1;go_wp2_with (refine dU (.tmp 6) (.tmp 37) dV V1 rfl fH rfl lT (λw9 dS jg=>?_))
  have wO:=dX.keptBy ho1 jg fH;have hB1:=fD hb0 hb1;have hle:=hb0.size;have eF:=Below.gV hB1 jg;go_wp2_with fail;exact jl results38 dS rfl rfl (show nN (zO p s) w _ w9 from⟨V1,rfl,wO.from_ hle,eF⟩)
 have q3:(kd==3)=false:=by simpa using k3
 by_cases k4:kd=4
 ·rw[show act p s ⟨kd,xa,xb,xc,xn,l⟩=Ad p s xa by rw[k4];rfl]
  have q4:(kd==4)=true:=by simpa using k4
  clear k1 k2 k3 k4;go_enter func38,ntmps38
  go_wp2_with fail;obtain⟨W0,hW0,hb0,hsE,hK,hD,hR⟩:=yY w p s Ab cb As cs A0 c0 A1 c1 A2 c2 A3 c3 A4 c4 A5 c5 A6 c6 kd xa xb xc xn Al l.length cl;rw[hW0];clear hW0;refine(jhS _ _ _ p s xa (hP'.O _ hb0) (hV.O _ hb0)).mono ?_
  rintro e W1 ⟨V1,rfl,ho1,hb1⟩;have fH:=hR.O _ hb1;have lT:=dX.one ho1;go_wp2_with (refine dU (.tmp 6) (.tmp 46) dV V1 rfl fH rfl lT (λw9 dS jg=>?_))
  have wO:=dX.keptBy ho1 jg fH;have hB1:=fD hb0 hb1;have hle:=hb0.size;have eF:=Below.gV hB1 jg;go_wp2_with fail;exact jl results38 dS rfl rfl (show nN (Ad p s xa) w _ w9 from⟨V1,rfl,wO.from_ hle,eF⟩)
 have q4:(kd==4)=false:=by simpa using k4
 by_cases k5:kd=5
 ·rw[show act p s ⟨kd,xa,xb,xc,xn,l⟩=pick p s xa xb xc xn by rw[k5];rfl]
  have q5:(kd==5)=true:=by simpa using k5
  clear k1 k2 k3 k4 k5;go_enter func38,ntmps38
  go_wp2_with fail;obtain⟨W0,hW0,hb0,hsE,hK,hD,hR⟩:=yY w p s Ab cb As cs A0 c0 A1 c1 A2 c2 A3 c3 A4 c4 A5 c5 A6 c6 kd xa xb xc xn Al l.length cl;rw[hW0];clear hW0;refine(jnX _ _ _ p s xa xb xc xn (hP'.O _ hb0) (hV.O _ hb0)).mono ?_
  rintro e W1 ⟨V1,rfl,ho1,hb1⟩;have fH:=hR.O _ hb1;have lT:=dX.one ho1;go_wp2_with (refine dU (.tmp 6) (.tmp 61) dV V1 rfl fH rfl lT (λw9 dS jg=>?_))
  have wO:=dX.keptBy ho1 jg fH;have hB1:=fD hb0 hb1;have hle:=hb0.size;have eF:=Below.gV hB1 jg;go_wp2_with fail;exact jl results38 dS rfl rfl (show nN (pick p s xa xb xc xn) w _ w9 from⟨V1,rfl,wO.from_ hle,eF⟩)
 have q5:(kd==5)=false:=by simpa using k5
 by_cases k6:kd=6
 ·rw[show act p s ⟨kd,xa,xb,xc,xn,l⟩=fill p s by rw[k6];rfl]
  have q6:(kd==6)=true:=by simpa using k6
  clear k1 k2 k3 k4 k5 k6;go_enter func38,ntmps38
  go_wp2_with fail;obtain⟨W0,hW0,hb0,hsE,hK,hD,hR⟩:=yY w p s Ab cb As cs A0 c0 A1 c1 A2 c2 A3 c3 A4 c4 A5 c5 A6 c6 kd xa xb xc xn Al l.length cl;rw[hW0];clear hW0;refine(jpt _ _ _ p s (hP'.O _ hb0) (hV.O _ hb0)).mono ?_
  rintro e W1 ⟨V1,rfl,ho1,hb1⟩;have fH:=hR.O _ hb1;have lT:=dX.one ho1;go_wp2_with (refine dU (.tmp 6) (.tmp 68) dV V1 rfl fH rfl lT (λw9 dS jg=>?_))
  have wO:=dX.keptBy ho1 jg fH;have hB1:=fD hb0 hb1;have hle:=hb0.size;have eF:=Below.gV hB1 jg;go_wp2_with fail;exact jl results38 dS rfl rfl (show nN (fill p s) w _ w9 from⟨V1,rfl,wO.from_ hle,eF⟩)
 have q6:(kd==6)=false:=by simpa using k6
 by_cases k7:kd=7
 ·rw[show act p s ⟨kd,xa,xb,xc,xn,l⟩=D6 p s xa xn by rw[k7];rfl]
  have q7:(kd==7)=true:=by simpa using k7
  clear k1 k2 k3 k4 k5 k6 k7;go_enter func38,ntmps38
  go_wp2_with fail;obtain⟨W0,hW0,hb0,hsE,hK,hD,hR⟩:=yY w p s Ab cb As cs A0 c0 A1 c1 A2 c2 A3 c3 A4 c4 A5 c5 A6 c6 kd xa xb xc xn Al l.length cl;rw[hW0];clear hW0;refine(jmk _ _ _ p s xa xn (hP'.O _ hb0) (hV.O _ hb0)).mono ?_
  rintro e W1 ⟨V1,rfl,ho1,hb1⟩;have fH:=hR.O _ hb1;have lT:=dX.one ho1;go_wp2_with (refine dU (.tmp 6) (.tmp 79) dV V1 rfl fH rfl lT (λw9 dS jg=>?_))
  have wO:=dX.keptBy ho1 jg fH;have hB1:=fD hb0 hb1;have hle:=hb0.size;have eF:=Below.gV hB1 jg;go_wp2_with fail;exact jl results38 dS rfl rfl (show nN (D6 p s xa xn) w _ w9 from⟨V1,rfl,wO.from_ hle,eF⟩)
 have q7:(kd==7)=false:=by simpa using k7
 by_cases k8:kd=8
 ·rw[show act p s ⟨kd,xa,xb,xc,xn,l⟩=count p s xa xb xn by rw[k8];rfl]
  have q8:(kd==8)=true:=by simpa using k8
  clear k1 k2 k3 k4 k5 k6 k7 k8;go_enter func38,ntmps38
  go_wp2_with fail;obtain⟨W0,hW0,hb0,hsE,hK,hD,hR⟩:=yY w p s Ab cb As cs A0 c0 A1 c1 A2 c2 A3 c3 A4 c4 A5 c5 A6 c6 kd xa xb xc xn Al l.length cl;rw[hW0];clear hW0;refine(jmy _ _ _ p s xa xb xn (hP'.O _ hb0) (hV.O _ hb0)).mono ?_
  rintro e W1 ⟨V1,rfl,ho1,hb1⟩;have fH:=hR.O _ hb1;have lT:=dX.one ho1;go_wp2_with (refine dU (.tmp 6) (.tmp 92) dV V1 rfl fH rfl lT (λw9 dS jg=>?_))
  have wO:=dX.keptBy ho1 jg fH;have hB1:=fD hb0 hb1;have hle:=hb0.size;have eF:=Below.gV hB1 jg;go_wp2_with fail;exact jl results38 dS rfl rfl (show nN (count p s xa xb xn) w _ w9 from⟨V1,rfl,wO.from_ hle,eF⟩)
 have q8:(kd==8)=false:=by simpa using k8
 ·rw[show act p s ⟨kd,xa,xb,xc,xn,l⟩=(kF,8)by unfold act;simp only[k1,k2,k3,k4,k5,k6,k7,k8,uY]]
  clear k1 k2 k3 k4 k5 k6 k7 k8;obtain⟨W0,hW0,hb0,hsE,hK,hD,hR⟩:=yY w p s Ab cb As cs A0 c0 A1 c1 A2 c2 A3 c3 A4 c4 A5 c5 A6 c6 kd xa xb xc xn Al l.length cl;subst hW0;have fH:=hR.O _ (aj _ _);go_enter func38,ntmps38
  go_wp2_with (refine dU (.tmp 6) (.tmp 94) dV dV rfl fH rfl rfl (λw9 dS jg=>?_))
  have hle:=hb0.size;have eF:=Below.gV hb0 jg;go_wp2_with fail;exact jl results38 dS rfl rfl (jJ rfl eF)
end
section
attribute [local go_sem] aV jF iY jI
theorem jp3(w:World)(v vs vd:Value)(p:dG)(s:aI)(x:Qw)(hp:kK w w v p)(hv:kG w w vs s)(hd:Yo w w vd x)(hcap:jaj vs):
  Calls prog 49 #[v,vs,vd] w (nN (act p s x) w):=by
 obtain⟨Ab,cb,As,cs,rfl,hP',hBn,hSz,hlb,hls⟩:=o9 hp;obtain⟨A0,c0,A1,c1,A2,c2,A3,c3,A4,c4,A5,c5,A6,c6,rfl,hV,hN,hO,hH,hM,hI,hU,hX,hl0,hl1,hl2,hl3,hl4,hl5,Jb⟩:=lY hv;obtain⟨Al,cl,rfl,hDV,hLn,hll⟩:=SC hd;obtain⟨kd,xa,xb,xc,xn,l⟩:=x;simp only at hDV hLn hll ⊢
 have hcap':=ah hcap;clear hd hp hv hcap;by_cases k1:kd=1
 ·rw[show act p s ⟨kd,xa,xb,xc,xn,l⟩=rD p s xa xb xn by rw[k1];rfl]
  have q1:(kd==1)=true:=by simpa using k1
  clear k1;go_enter func49,ntmps49
  go_wp2_with fail;obtain⟨W0,hW0,hb0,hsE,hK,hD,hR⟩:=yY w p s Ab cb As cs A0 c0 A1 c1 A2 c2 A3 c3 A4 c4 A5 c5 A6 c6 kd xa xb xc xn Al l.length cl;rw[hW0];clear hW0;refine(jeg _ _ _ p s xa xb xn (hP'.O _ hb0) (hV.O _ hb0)).mono ?_
  rintro e W1 ⟨V1,rfl,ho1,hb1⟩;have fH:=hR.O _ hb1;have lT:=dX.one ho1;go_wp2_with (refine dU (.tmp 6) (.tmp 21) dV V1 rfl fH rfl lT (λw9 dS jg=>?_))
  have wO:=dX.keptBy ho1 jg fH;have hB1:=fD hb0 hb1;have hle:=hb0.size;have eF:=Below.gV hB1 jg;go_wp2_with fail;exact jl results49 dS rfl rfl (show nN (rD p s xa xb xn) w _ w9 from⟨V1,rfl,wO.from_ hle,eF⟩)
 have q1:(kd==1)=false:=by simpa using k1
 by_cases k2:kd=2
 ·rw[show act p s ⟨kd,xa,xb,xc,xn,l⟩=enter p s l by rw[k2];rfl]
  have q2:(kd==2)=true:=by simpa using k2
  clear k1 k2;go_enter func49,ntmps49
  go_wp2_with fail;obtain⟨W0,hW0,hb0,hsE,hK,hD,hR⟩:=yY w p s Ab cb As cs A0 c0 A1 c1 A2 c2 A3 c3 A4 c4 A5 c5 A6 c6 kd xa xb xc xn Al l.length cl;rw[hW0];clear hW0;refine(jit _ _ _ _ p s l (hP'.O _ hb0) (hV.O _ hb0) (hLn.O _ hb0)).mono ?_
  rintro e W1 ⟨V1,rfl,ho1,hb1⟩;have fH:=hR.O _ hb1;have lT:=dX.one ho1;go_wp2_with (refine dU (.tmp 6) (.tmp 30) dV V1 rfl fH rfl lT (λw9 dS jg=>?_))
  have wO:=dX.keptBy ho1 jg fH;have hB1:=fD hb0 hb1;have hle:=hb0.size;have eF:=Below.gV hB1 jg;go_wp2_with fail;exact jl results49 dS rfl rfl (show nN (enter p s l) w _ w9 from⟨V1,rfl,wO.from_ hle,eF⟩)
 have q2:(kd==2)=false:=by simpa using k2
 by_cases k3:kd=3
 ·rw[show act p s ⟨kd,xa,xb,xc,xn,l⟩=zO p s by rw[k3];rfl]
  have q3:(kd==3)=true:=by simpa using k3
  clear k1 k2 k3;go_enter func49,ntmps49
  go_wp2_with fail;obtain⟨W0,hW0,hb0,hsE,hK,hD,hR⟩:=yY w p s Ab cb As cs A0 c0 A1 c1 A2 c2 A3 c3 A4 c4 A5 c5 A6 c6 kd xa xb xc xn Al l.length cl;rw[hW0];clear hW0;refine(jef _ _ _ p s (hP'.O _ hb0) (hV.O _ hb0)).mono ?_
  rintro e W1 ⟨V1,rfl,ho1,hb1⟩;have fH:=hR.O _ hb1;have lT:=dX.one ho1;go_wp2_with (refine dU (.tmp 6) (.tmp 37) dV V1 rfl fH rfl lT (λw9 dS jg=>?_))
  have wO:=dX.keptBy ho1 jg fH;have hB1:=fD hb0 hb1;have hle:=hb0.size;have eF:=Below.gV hB1 jg;go_wp2_with fail;exact jl results49 dS rfl rfl (show nN (zO p s) w _ w9 from⟨V1,rfl,wO.from_ hle,eF⟩)
 have q3:(kd==3)=false:=by simpa using k3
 by_cases k4:kd=4
 ·rw[show act p s ⟨kd,xa,xb,xc,xn,l⟩=Ad p s xa by rw[k4];rfl]
  have q4:(kd==4)=true:=by simpa using k4
  clear k1 k2 k3 k4;go_enter func49,ntmps49
  go_wp2_with fail;obtain⟨W0,hW0,hb0,hsE,hK,hD,hR⟩:=yY w p s Ab cb As cs A0 c0 A1 c1 A2 c2 A3 c3 A4 c4 A5 c5 A6 c6 kd xa xb xc xn Al l.length cl;rw[hW0];clear hW0;refine(jgM _ _ _ p s xa (hP'.O _ hb0) (hV.O _ hb0)).mono ?_
  rintro e W1 ⟨V1,rfl,ho1,hb1⟩;have fH:=hR.O _ hb1;have lT:=dX.one ho1;go_wp2_with (refine dU (.tmp 6) (.tmp 46) dV V1 rfl fH rfl lT (λw9 dS jg=>?_))
  have wO:=dX.keptBy ho1 jg fH;have hB1:=fD hb0 hb1;have hle:=hb0.size;have eF:=Below.gV hB1 jg;go_wp2_with fail;exact jl results49 dS rfl rfl (show nN (Ad p s xa) w _ w9 from⟨V1,rfl,wO.from_ hle,eF⟩)
 have q4:(kd==4)=false:=by simpa using k4
 by_cases k5:kd=5
 ·rw[show act p s ⟨kd,xa,xb,xc,xn,l⟩=pick p s xa xb xc xn by rw[k5];rfl]
  have q5:(kd==5)=true:=by simpa using k5
  clear k1 k2 k3 k4 k5;go_enter func49,ntmps49
  go_wp2_with fail;obtain⟨W0,hW0,hb0,hsE,hK,hD,hR⟩:=yY w p s Ab cb As cs A0 c0 A1 c1 A2 c2 A3 c3 A4 c4 A5 c5 A6 c6 kd xa xb xc xn Al l.length cl;rw[hW0];clear hW0;refine(jle _ _ _ p s xa xb xc xn (hP'.O _ hb0) (hV.O _ hb0)).mono ?_
  rintro e W1 ⟨V1,rfl,ho1,hb1⟩;have fH:=hR.O _ hb1;have lT:=dX.one ho1;go_wp2_with (refine dU (.tmp 6) (.tmp 61) dV V1 rfl fH rfl lT (λw9 dS jg=>?_))
  have wO:=dX.keptBy ho1 jg fH;have hB1:=fD hb0 hb1;have hle:=hb0.size;have eF:=Below.gV hB1 jg;go_wp2_with fail;exact jl results49 dS rfl rfl (show nN (pick p s xa xb xc xn) w _ w9 from⟨V1,rfl,wO.from_ hle,eF⟩)
 have q5:(kd==5)=false:=by simpa using k5
 by_cases k6:kd=6
 ·rw[show act p s ⟨kd,xa,xb,xc,xn,l⟩=fill p s by rw[k6];rfl]
  have q6:(kd==6)=true:=by simpa using k6
  clear k1 k2 k3 k4 k5 k6;go_enter func49,ntmps49
  go_wp2_with fail;obtain⟨W0,hW0,hb0,hsE,hK,hD,hR⟩:=yY w p s Ab cb As cs A0 c0 A1 c1 A2 c2 A3 c3 A4 c4 A5 c5 A6 c6 kd xa xb xc xn Al l.length cl;rw[hW0];clear hW0;refine(jli _ _ _ p s (hP'.O _ hb0) (hV.O _ hb0)).mono ?_
  rintro e W1 ⟨V1,rfl,ho1,hb1⟩;have fH:=hR.O _ hb1;have lT:=dX.one ho1;go_wp2_with (refine dU (.tmp 6) (.tmp 68) dV V1 rfl fH rfl lT (λw9 dS jg=>?_))
  have wO:=dX.keptBy ho1 jg fH;have hB1:=fD hb0 hb1;have hle:=hb0.size;have eF:=Below.gV hB1 jg;go_wp2_with fail;exact jl results49 dS rfl rfl (show nN (fill p s) w _ w9 from⟨V1,rfl,wO.from_ hle,eF⟩)
 have q6:(kd==6)=false:=by simpa using k6
 by_cases k7:kd=7
 ·rw[show act p s ⟨kd,xa,xb,xc,xn,l⟩=D6 p s xa xn by rw[k7];rfl]
  have q7:(kd==7)=true:=by simpa using k7
  clear k1 k2 k3 k4 k5 k6 k7;go_enter func49,ntmps49
  go_wp2_with fail;obtain⟨W0,hW0,hb0,hsE,hK,hD,hR⟩:=yY w p s Ab cb As cs A0 c0 A1 c1 A2 c2 A3 c3 A4 c4 A5 c5 A6 c6 kd xa xb xc xn Al l.length cl;rw[hW0];clear hW0;refine(jis _ _ _ p s xa xn (hP'.O _ hb0) (hV.O _ hb0) hcap'.O).mono ?_
  rintro e W1 ⟨V1,rfl,ho1,hb1⟩;have fH:=hR.O _ hb1;have lT:=dX.one ho1;go_wp2_with (refine dU (.tmp 6) (.tmp 79) dV V1 rfl fH rfl lT (λw9 dS jg=>?_))
  have wO:=dX.keptBy ho1 jg fH;have hB1:=fD hb0 hb1;have hle:=hb0.size;have eF:=Below.gV hB1 jg;go_wp2_with fail;exact jl results49 dS rfl rfl (show nN (D6 p s xa xn) w _ w9 from⟨V1,rfl,wO.from_ hle,eF⟩)
 have q7:(kd==7)=false:=by simpa using k7
 by_cases k8:kd=8
 ·rw[show act p s ⟨kd,xa,xb,xc,xn,l⟩=count p s xa xb xn by rw[k8];rfl]
  have q8:(kd==8)=true:=by simpa using k8
  clear k1 k2 k3 k4 k5 k6 k7 k8;go_enter func49,ntmps49
  go_wp2_with fail;obtain⟨W0,hW0,hb0,hsE,hK,hD,hR⟩:=yY w p s Ab cb As cs A0 c0 A1 c1 A2 c2 A3 c3 A4 c4 A5 c5 A6 c6 kd xa xb xc xn Al l.length cl;rw[hW0];clear hW0;refine(jiu _ _ _ p s xa xb xn (hP'.O _ hb0) (hV.O _ hb0)).mono ?_
  rintro e W1 ⟨V1,rfl,ho1,hb1⟩;have fH:=hR.O _ hb1;have lT:=dX.one ho1;go_wp2_with (refine dU (.tmp 6) (.tmp 92) dV V1 rfl fH rfl lT (λw9 dS jg=>?_))
  have wO:=dX.keptBy ho1 jg fH;have hB1:=fD hb0 hb1;have hle:=hb0.size;have eF:=Below.gV hB1 jg;go_wp2_with fail;exact jl results49 dS rfl rfl (show nN (count p s xa xb xn) w _ w9 from⟨V1,rfl,wO.from_ hle,eF⟩)
 have q8:(kd==8)=false:=by simpa using k8
 ·rw[show act p s ⟨kd,xa,xb,xc,xn,l⟩=(kF,8)by unfold act;simp only[k1,k2,k3,k4,k5,k6,k7,k8,uY]]
  clear k1 k2 k3 k4 k5 k6 k7 k8;obtain⟨W0,hW0,hb0,hsE,hK,hD,hR⟩:=yY w p s Ab cb As cs A0 c0 A1 c1 A2 c2 A3 c3 A4 c4 A5 c5 A6 c6 kd xa xb xc xn Al l.length cl;subst hW0;have fH:=hR.O _ (aj _ _);go_enter func49,ntmps49
  go_wp2_with (refine dU (.tmp 6) (.tmp 94) dV dV rfl fH rfl rfl (λw9 dS jg=>?_))
  have hle:=hb0.size;have eF:=Below.gV hb0 jg;go_wp2_with fail;exact jl results49 dS rfl rfl (jJ rfl eF)
end
section
structure Made(w:World)(aT:Nat)(V:SV)(p:dG)(s:aI):Prop where
 view:kG w w V.val s
 cap:jaj V.val
 one:V.cells.all (λu=>u.oneCell')=true
def zn(aT:Nat)(V:SV)(p:dG)(s:aI)(w:World):Prop:=(dX w aT V s/\small s=true)\/(RB w aT V (List.replicate p.aW.length 0) p.dP.length/\s=begin p/\fU p=0)
theorem zn.below{w w':World}{aT:Nat}{V:SV}{p:dG}{s:aI}(h:zn aT V p s w)(hb:Below w w w'):zn aT V p s w':=by
 rcases h with⟨h,h2⟩|⟨h,h2⟩
 ·exact .inl ⟨h.below hb,h2⟩
 ·exact .inr ⟨h.below hb,h2⟩
theorem zn.kept{w w':World}{aT b:Nat}{V V':SV}{p:dG}{s:aI}(h:zn aT V p s w)(hg:w.grownBy w' (some b))(hb:jB w b V'):zn aT V p s w':=by
 rcases h with⟨h,h2⟩|⟨h,h2⟩
 ·exact .inl ⟨h.keptBy hg hb.blk,h2⟩
 ·exact .inr ⟨h.keptBy hg hb.blk,h2⟩
theorem dX.jq3{w:World}{aT:Nat}{V:SV}{s:aI}(h:dX w aT V s):jaj V.val:=by
 obtain⟨A,c,e⟩:=h.aF.isSlice;have hm:=h.aF;rw[e]at hm
 refine⟨V.on,V.ak,V.aA,A,s.aF.length,c,V.jf,V.O,V.dB,?_,Own.cap hm⟩
 rw[<- e];rfl
theorem zn.made{w:World}{aT:Nat}{V:SV}{p:dG}{s:aI}(h:zn aT V p s w):Made w aT V p s:=by
 rcases h with⟨h,h2⟩|⟨h,rfl,hz⟩
 ·exact⟨h.view0 h2,h.jq3,h.one⟩
 ·obtain⟨_,hc6,_,hc3⟩:=oI hz;refine⟨h.view (by omega) (by omega),⟨V.on,V.ak,V.aA,none,0,0,V.jf,V.O,V.dB,?_,ay _⟩,h.one⟩
  have e:=h.UK;show Value.agg #[V.on,V.ak,V.aA,V.aF,V.jf,V.O,V.dB]=_;rw[e];rfl
def jbz(B:Nat)(_:Nat)(w1 w2:World):Prop:=Below B w1 w2/\∀aT V s,dX w1 aT V s->dX w2 aT V s
theorem jaU{w1 w2:World}{B k:Nat}(h:Below w1 w1 w2)(hB:B<=w1.heap.size):jbz B k w1 w2:=⟨h.mono hB,λ_ _ _ h'=>h'.below h⟩
theorem jeH{w1 w2:World}{B b k:Nat}{V:SV}(hb:jB w1 b V)(hB:B<=b)(hg:w1.grownBy w2 (some b)):jbz B k w1 w2:=
 ⟨(aj B w1).grown hg (aU hB (iQ hb.lt)) (λk hk=>by injection hk with hk;omega),λ_ _ _ h=>h.keptBy hg hb.blk⟩
def SB(mk:SV->Value)(B:Nat)(s:aI)(_:Nat)(v:Value)(w:World):Prop:=∃V:SV,v=mk V/\dX w B V s
theorem QY{mk:SV->Value}{B ph:Nat}{s:aI}{v:Value}{w1 w2:World}(h:SB mk B s ph v w1)(hb:Below w1 w1 w2):SB mk B s ph v w2:=by
 obtain⟨V,h1,h2⟩:=h;exact⟨V,h1,h2.below hb⟩
theorem Ua{mk:SV->Value}{B B' k:Nat}{s:aI}{v:Value}{w1 w2:World}(h:SB mk B s k v w1)(hb:jbz B' k w1 w2):SB mk B s (k+1) v w2:=by
 obtain⟨V,h1,h2⟩:=h;exact⟨V,h1,hb.2 _ _ _ h2⟩
def jfD(B:Nat)(ph:Nat)(v:Value)(w:World):Prop:=∃b,v=.pointer (some ⟨b,0,none⟩)/\B<=b/\(ph<=1->jB w b dV)
theorem jfC{B ph:Nat}{v:Value}{w1 w2:World}(h:jfD B ph v w1)(hb:Below w1 w1 w2):jfD B ph v w2:=by
 obtain⟨b,h1,h2,h3⟩:=h;exact⟨b,h1,h2,λhp=>(h3 hp).below hb (h3 hp).lt⟩
theorem jkL{B:Nat}{v:Value}{w1 w2:World}(h:jfD B 1 v w1):jfD B 2 v w2:=by
 obtain⟨b,h1,h2,_⟩:=h;exact⟨b,h1,h2,λhp=>absurd hp (by omega)⟩
def Si(d B:Nat)(s:aI)(g:Nat->Value)(w:World):Prop:=∃b V,g d=.pointer (some ⟨b,0,none⟩)/\B<=b/\jB w b V/\dX w B V s
theorem YB{d B:Nat}{s:aI}{g:Nat->Value}{w1 w2:World}(h:Si d B s g w1)(hb:Below w1 w1 w2):Si d B s g w2:=by
 obtain⟨b,V,h1,h2,h3,h4⟩:=h;exact⟨b,V,h1,h2,h3.below hb h3.lt,h4.below hb⟩
end
end Wh
namespace Wh
open Go Go.RowKit Go.ChangeShapes Go.WideShapes Go.Deep Go.Proofs Tryz
section
theorem u_string:prog.underlying 9=some .string:=by kernel_rfl
section
variable {H:Type} {en:TypeId×Value→H} {w:World} {aT:Nat} {sp:Nat→Bool} {hd:Bool}
end
def nums(s:ByteArray):List Nat:=s.data.toList.map UInt8.toNat
theorem bstr_nums(s:ByteArray):eY (nums s)=s:=by
 unfold eY nums;apply DU;simp[Function.comp_def]
theorem nums_lt(s:ByteArray):∀n∈nums s,n<256:=λn hn=>by
 obtain⟨b,_,rfl⟩:=kN.1 hn;exact b.toNat_lt
end
end Wh
