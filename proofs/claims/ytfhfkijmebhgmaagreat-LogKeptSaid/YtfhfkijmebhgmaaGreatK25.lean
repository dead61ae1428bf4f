/- Texts of the claim, joined. -/
import Derived.Shelf.SlIterI.Keys
import Derived.Shelf.SlIterI.Sorted
import Derived.Shelf.SortM.Plain
import Derived.Shelf.SortM.SortNone
import Derived.Ground.GgzProg
import Derived.Ground.SlgmProg
import Derived.Test.YtfhfkijmebhgmaaGreatK24
set_option maxHeartbeats 20000000
set_option maxRecDepth 100000
namespace Go.Proofs
open Go.Shelf
def Wh.keysA_ren:Go.Shelf.Ren:=⟨fun|7=>66|10=>122|n=>n,fun|23=>93|26=>3|3=>3|28=>98|0=>0|27=>97|33=>158|4=>4|n=>n,fun|n=>n⟩
theorem Wh.keysA:Go.Proofs.SlLaysZI.n7 Tryz.prog Wh.keysA_ren:={
 mixed:=by kernel_rfl
 f7:=⟨Tryz.f66.name,by decide,Tryz.func66.trans (congrArg some (by kernel_rfl))⟩
 f10:=⟨Tryz.f122.name,by decide,Tryz.func122.trans (congrArg some (by kernel_rfl))⟩
 t0:=Tryz.underlying0
 a0:=Tryz.isAgg0
 z0:=Tryz.sizeOf0
 v0:=Tryz.zeroValue0
 t4:=Tryz.underlying4
 a4:=Tryz.isAgg4
 z4:=Tryz.sizeOf4
 v4:=Tryz.zeroValue4
 t23:=Tryz.underlying93
 a23:=Tryz.isAgg93
 z23:=Tryz.sizeOf93
 v23:=Tryz.zeroValue93
 t26:=Tryz.underlying3
 a26:=Tryz.isAgg3
 z26:=Tryz.sizeOf3
 v26:=Tryz.zeroValue3
 t27:=Tryz.underlying97
 a27:=Tryz.isAgg97
 z27:=Tryz.sizeOf97
 v27:=Tryz.zeroValue97
 t28:=Tryz.underlying98
 a28:=Tryz.isAgg98
 z28:=Tryz.sizeOf98
 v28:=Tryz.zeroValue98
 t33:=Tryz.underlying158
 a33:=Tryz.isAgg158
 z33:=Tryz.sizeOf158
 v33:=Tryz.zeroValue158}
def Wh.sortedA_ren:Go.Shelf.Ren:=⟨fun|6=>65|8=>120|9=>121|11=>161|13=>163|12=>162|23=>179|24=>180|14=>170|15=>171|16=>172|17=>173|18=>174|19=>175|20=>176|21=>177|22=>178|25=>185|26=>186|27=>187|28=>188|29=>189|30=>190|31=>192|n=>n,fun|26=>3|28=>98|24=>23|0=>0|3=>3|37=>196|48=>213|50=>215|4=>4|40=>206|39=>205|45=>141|5=>5|9=>9|51=>218|55=>178|57=>223|58=>224|33=>158|n=>n,fun|n=>n⟩
theorem Wh.sortedA:Go.Proofs.SlLaysZI.n6 Tryz.prog Wh.sortedA_ren:={
 mixed:=by kernel_rfl
 f6:=⟨Tryz.f65.name,by decide,Tryz.func65.trans (congrArg some (by kernel_rfl))⟩
 f8:=⟨Tryz.f120.name,by decide,Tryz.func120.trans (congrArg some (by kernel_rfl))⟩
 f11:=⟨Tryz.f161.name,by decide,Tryz.func161.trans (congrArg some (by kernel_rfl))⟩
 t0:=Tryz.underlying0
 a0:=Tryz.isAgg0
 z0:=Tryz.sizeOf0
 v0:=Tryz.zeroValue0
 t24:=Tryz.underlying23
 a24:=Tryz.isAgg23
 z24:=Tryz.sizeOf23
 v24:=Tryz.zeroValue23
 t26:=Tryz.underlying3
 a26:=Tryz.isAgg3
 z26:=Tryz.sizeOf3
 v26:=Tryz.zeroValue3
 t28:=Tryz.underlying98
 a28:=Tryz.isAgg98
 z28:=Tryz.sizeOf98
 v28:=Tryz.zeroValue98
 i26:=by kernel_rfl}
def Wh.jfJ:Go.Shelf.Ren:=⟨fun|5=>121|8=>163|7=>162|19=>179|20=>180|10=>170|11=>171|12=>172|13=>173|14=>174|15=>175|16=>176|17=>177|18=>178|30=>185|31=>186|32=>187|33=>188|34=>189|35=>190|40=>192|n=>n,fun|23=>23|25=>3|3=>3|32=>196|22=>23|0=>0|44=>213|46=>215|4=>4|36=>206|35=>205|41=>141|5=>5|9=>9|53=>218|57=>178|63=>223|64=>224|n=>n,fun|n=>n⟩
theorem Wh.sortA:Go.Proofs.SlLaysM.n5 Tryz.prog Wh.jfJ:={
 mixed:=by kernel_rfl
 f5:=⟨Tryz.f121.name,by decide,Tryz.func121.trans (congrArg some (by kernel_rfl))⟩
 f7:=⟨Tryz.f162.name,by decide,Tryz.func162.trans (congrArg some (by kernel_rfl))⟩
 f8:=Tryz.func163.trans (congrArg some (by kernel_rfl))
 f10:=⟨Tryz.f170.name,by decide,Tryz.func170.trans (congrArg some (by kernel_rfl))⟩
 f11:=⟨Tryz.f171.name,by decide,Tryz.func171.trans (congrArg some (by kernel_rfl))⟩
 f12:=⟨Tryz.f172.name,by decide,Tryz.func172.trans (congrArg some (by kernel_rfl))⟩
 f13:=⟨Tryz.f173.name,by decide,Tryz.func173.trans (congrArg some (by kernel_rfl))⟩
 f14:=⟨Tryz.f174.name,by decide,Tryz.func174.trans (congrArg some (by kernel_rfl))⟩
 f15:=⟨Tryz.f175.name,by decide,Tryz.func175.trans (congrArg some (by kernel_rfl))⟩
 f16:=⟨Tryz.f176.name,by decide,Tryz.func176.trans (congrArg some (by kernel_rfl))⟩
 f17:=⟨Tryz.f177.name,by decide,Tryz.func177.trans (congrArg some (by kernel_rfl))⟩
 f18:=⟨Tryz.f178.name,by decide,Tryz.func178.trans (congrArg some (by kernel_rfl))⟩
 f19:=Tryz.func179.trans (congrArg some (by kernel_rfl))
 f20:=Tryz.func180.trans (congrArg some (by kernel_rfl))
 f30:=⟨Tryz.f185.name,by decide,Tryz.func185.trans (congrArg some (by kernel_rfl))⟩
 f31:=Tryz.func186.trans (congrArg some (by kernel_rfl))
 f32:=Tryz.func187.trans (congrArg some (by kernel_rfl))
 f33:=⟨Tryz.f188.name,by decide,Tryz.func188.trans (congrArg some (by kernel_rfl))⟩
 f34:=⟨Tryz.f189.name,by decide,Tryz.func189.trans (congrArg some (by kernel_rfl))⟩
 f35:=⟨Tryz.f190.name,by decide,Tryz.func190.trans (congrArg some (by kernel_rfl))⟩
 f40:=⟨Tryz.f192.name,by decide,Tryz.func192.trans (congrArg some (by kernel_rfl))⟩
 t0:=Tryz.underlying0
 a0:=Tryz.isAgg0
 z0:=Tryz.sizeOf0
 v0:=Tryz.zeroValue0
 t3:=Tryz.underlying3
 a3:=Tryz.isAgg3
 z3:=Tryz.sizeOf3
 v3:=Tryz.zeroValue3
 t4:=Tryz.underlying4
 a4:=Tryz.isAgg4
 z4:=Tryz.sizeOf4
 v4:=Tryz.zeroValue4
 t5:=Tryz.underlying5
 a5:=Tryz.isAgg5
 z5:=Tryz.sizeOf5
 v5:=Tryz.zeroValue5
 t9:=Tryz.underlying9
 a9:=Tryz.isAgg9
 z9:=Tryz.sizeOf9
 v9:=Tryz.zeroValue9
 t22:=Tryz.underlying23
 a22:=Tryz.isAgg23
 z22:=Tryz.sizeOf23
 v22:=Tryz.zeroValue23
 t23:=Tryz.underlying23
 a23:=Tryz.isAgg23
 z23:=Tryz.sizeOf23
 v23:=Tryz.zeroValue23
 t25:=Tryz.underlying3
 a25:=Tryz.isAgg3
 z25:=Tryz.sizeOf3
 v25:=Tryz.zeroValue3
 t32:=Tryz.underlying196
 a32:=Tryz.isAgg196
 z32:=Tryz.sizeOf196
 v32:=Tryz.zeroValue196
 t35:=Tryz.underlying205
 a35:=Tryz.isAgg205
 z35:=Tryz.sizeOf205
 v35:=Tryz.zeroValue205
 t36:=Tryz.underlying206
 a36:=Tryz.isAgg206
 z36:=Tryz.sizeOf206
 v36:=Tryz.zeroValue206
 t41:=Tryz.underlying141
 a41:=Tryz.isAgg141
 z41:=Tryz.sizeOf141
 v41:=Tryz.zeroValue141
 t44:=Tryz.underlying213
 a44:=Tryz.isAgg213
 z44:=Tryz.sizeOf213
 v44:=Tryz.zeroValue213
 t46:=Tryz.underlying215
 a46:=Tryz.isAgg215
 z46:=Tryz.sizeOf215
 v46:=Tryz.zeroValue215
 t53:=Tryz.underlying218
 a53:=Tryz.isAgg218
 z53:=Tryz.sizeOf218
 v53:=Tryz.zeroValue218
 t57:=Tryz.underlying178
 a57:=Tryz.isAgg178
 z57:=Tryz.sizeOf178
 v57:=Tryz.zeroValue178
 t63:=Tryz.underlying223
 a63:=Tryz.isAgg223
 z63:=Tryz.sizeOf223
 v63:=Tryz.zeroValue223
 t64:=Tryz.underlying224
 a64:=Tryz.isAgg224
 z64:=Tryz.sizeOf224
 v64:=Tryz.zeroValue224}
end Go.Proofs
namespace Wh
open Go Go.RowKit Go.Maps Go.Sort Go.Shelf Go.Proofs Tryz
theorem jgZ(m:Nat):AnyZI.SortsIn prog Wh.sortedA_ren Fence.wide m:=
 ⟨λblk off cap ss W hH Cc hsz=>iQ.2 (AnyM.slices_Sort_int Wh.sortA blk off cap ss W hH Cc hsz),λp cap W=>iQ.2 (AnyM.slices_Sort_int_none Wh.sortA p cap W)⟩
theorem keysOf(mb:Option Nat)(W:World):Calls prog 66 #[.map mb] W λe w'=>e=.returned (.func (.func 122) #[] #[.pointer (some ⟨W.heap.size,0,none⟩)])/\w'=W.alloc (.cells #[.map mb] 93):=
 (iQ (n:=5)).1 (AnyZI.keys_in Wh.keysA Fence.wide 5 trivial rfl mb W)
theorem jdd(b nn:Nat)(D0:DataW Unit)(R:Value->Option (DataW Unit×List MemPlace))(w:World)(lC:w.ownsMap prog 3 R b nn D0)(hmax:Maps.size D0<=1000000):
  Calls prog 65 #[.func (.func 122) #[] #[.pointer (some ⟨w.heap.size,0,none⟩)]] (w.alloc (.cells #[.map (some b)] 93)) λe w'=>∃(v:Value) (ss:List Int),e=.returned v/\ss.Perm (intKeys D0)/\
   w'.ownsRow (w.alloc (.cells #[.map (some b)] 93)).heap.size 3 1 v ss.length ((ss.mergeSort (λx y=>decide (x<=y))).map encZ)/\Below (w.alloc (.cells #[.map (some b)] 93)).heap.size (w.alloc (.cells #[.map (some b)] 93)) w':=by
 have hbl:=lC.lt;have hseq:SeqGives Fence.wide 2 prog 122 #[.pointer (some ⟨w.heap.size,0,none⟩)] encZ (λss=>ss.Perm (intKeys D0)) (Maps.size D0) (w.alloc (.cells #[.map (some b)] 93)):=
  AnyZI.keys_gives (ρ:=Wh.keysA_ren) {Wh.keysA with} Fence.wide _ trivial rfl (by omega) w.heap.size b nn D0 _ (by simp) (by simp) (by
   obtain⟨es,clock,hb,Ft,hs,hD⟩:=lC;exact⟨es,clock,(wV _ _ b hbl).trans hb,Ft,hs,hD⟩)
 have cS:=AnyZI.sorted_in Wh.sortedA Fence.wide 5 trivial trivial trivial trivial rfl (by omega) (jgZ _) (enters_of func121 (by kernel_rfl) rfl) 122 #[.pointer (some ⟨w.heap.size,0,none⟩)] trivial (enters_of func122 (by kernel_rfl) rfl) _ _ (by unfold maxLen;omega) (by omega) _ hseq
 refine((iQ (n:=5)).1 cS).mono ?_
 rintro e w' ⟨v,ss,h1,h2,h3,_,h5⟩;exact⟨v,ss,h1,h2,h3,h5⟩
end Wh
namespace Wh
open Go Go.RowKit Go.Maps Go.Sort Go.Shelf Go.Proofs Tryz
section
variable {p:dA} {s s1:aJ} {i j:Nat} {D:DataW Unit} {l:List dZ}
def jbC(D:DataW Unit)(q:Nat):Bool:=has D (L6 (q:Int))
def kU(s:aJ)(D:DataW Unit):List Nat:=(List.range (s.ak.length*3)).filter (jbC D)
theorem jkF(hs:o9 p s)(h:vW s1 i j l 0 D)(h1:s1.aA=s.aA)(x:Int):has D (L6 x)=true↔∃q:Nat,q<s.ak.length*3/\jbC D q=true/\x=q:=by
 constructor
 ·intro hx;obtain⟨a,ha,_,_,he⟩:=(h.keys x).1 hx;simp only[h1]at ha he
  have:=hs.yR ha;rw[iL ha]at this
  obtain⟨⟨a1,a2⟩,⟨a3,a4⟩,_⟩:=this;have hf:=(nI.1 ((gG.1 hs.aA).1 _ (bU ha))).1;unfold sD at hf
  obtain⟨q,rfl⟩:∃q:Nat,x=q:=⟨x.toNat,by omega⟩
  exact⟨q,by omega,hx,rfl⟩
 ·rintro⟨q,_,h2,rfl⟩;exact h2
theorem jbz(hs:o9 p s)(h:vW s1 i j l 0 D)(h1:s1.aA=s.aA){w:World}{R:Value->Option (DataW Unit×List MemPlace)}{mb nn:Nat}(lC:w.ownsMap prog 3 R mb nn D){ss:List Int}(hp:ss.Perm (intKeys D)):
  ss.mergeSort (λx y=>decide (x<=y))=x9 (kU s D):=by
 obtain⟨es,rfl,hpw,_⟩:=lC.entries ZQ;obtain⟨es',he,hko⟩:=lC.keysOf;obtain rfl:es=es':=by injection he
 have hpl:(kU s (.map es)).Pairwise (·<·):=tH _ wE
 have hnn:(x9 (kU s (.map es))).Nodup:=by
  unfold x9;rw[List.Nodup,nY];exact hpl.imp λh=>by omega
 have hm:∀x:Int,x∈x9 (kU s (.map es))↔has (.map es) (L6 x)=true:=λx=>by
  rw[jkF hs h h1 x];unfold x9 kU;simp only[kV,kH,gZ];constructor
  ·rintro⟨q,⟨h1,h2⟩,rfl⟩;exact⟨q,h1,h2,rfl⟩
  ·rintro⟨q,h1,h2,rfl⟩;exact⟨q,⟨h1,h2⟩,rfl⟩
 have hperm:=perm_intKeys hpw (λp hp=>by obtain⟨v,hv⟩:=hko p hp;obtain⟨x,_,hx,_⟩:=Maps.keyOf_i64 underlying3 hv;exact⟨x,hx⟩) hnn hm
 have tr:∀a b c:Int,decide (a<=b)=true->decide (b<=c)=true->decide (a<=c)=true:=λa b c h1 h2=>by simp only[bD]at*;omega
 have to:∀a b:Int,(decide (a<=b)||decide (b<=a))=true:=λa b=>by simp only[fV,bD];omega
 refine List.Perm.eq_of_pairwise (le:=λa b=>decide (a<=b)=true) (λa b _ _ h1 h2=>by simp only[bD]at h1 h2;omega) (List.pairwise_mergeSort tr to ss) (by
  unfold x9;rw[nY];exact hpl.imp λh=>by simp only[bD];omega) ((List.mergeSort_perm ss _).trans (hp.trans hperm.symm))
theorem jhQ{v:Int}(hs:o9 p s)(h:vW s1 i j l 0 D)(h1:s1.aA=s.aA)(h2:yt s1 i j=yt s i j){q:Nat}(hq:jbC D q=false):rH s i j v ((q / 3:Nat):Int) ((q%3:Nat):Int)=0:=by
 have hr:=Dl hs i j v ((q / 3:Nat):Int) ((q%3:Nat):Int);by_cases h0:bW s.aA ((q / 3:Nat):Int) ((q%3:Nat):Int) i=0
 ·omega
 ·obtain⟨_,hmem⟩:=Dh (gG.1 hs.aA).1 (gG.1 hs.aA).2 h0;by_cases hg:(s.aG (q / 3) (q%3)).dh=j
  ·obtain⟨a,ha,hae⟩:=aV hmem;have:jbC D q=true:=(h.keys (q:Int)).2 ⟨a,by rw[h1];exact ha,aK _,by
    simp only[h1,h2,hae];exact ES.2 ⟨rfl,by show(s.aG ((q / 3:Nat):Int).toNat ((q%3:Nat):Int).toNat).dh=_;rw[bZ,bZ];exact hg⟩,by
    simp only[h1,hae];omega⟩
   rw[hq]at this
   cases this
  ·have:=(ML hs i j v ((q / 3:Nat):Int) ((q%3:Nat):Int) i).2 (λhh=>hg (by have:=hh.2;rw[bZ,bZ]at this;exact this))
   unfold rH;omega
theorem jbB{jq v:Int}(hc:aQ p s=0)(h:vW s1 i j l 0 D)(h1:s1.aA=s.aA)(h2:yt s1 i j=yt s i j){q:Nat}(hq:jbC D q=true):
  May (wM s i j jq v) (q / 3) (q%3) (rH s i j v ((q / 3:Nat):Int) ((q%3:Nat):Int)):=by
 have hr0:=jf hc;have hs:=hr0.sane;obtain⟨a,ha,_,hi,he⟩:=(h.keys (q:Int)).1 hq;simp only[h1,h2]at ha hi he
 have hh:=hs.yR ha;rw[iL ha]at hh
 obtain⟨⟨a1,a2⟩,⟨a3,a4⟩,_⟩:=hh;have hfa:=nI.1 ((gG.1 hs.aA).1 _ (bU ha));have hf:=hfa.1;unfold sD at hf
 have e1:s.aA[a].aC=((q / 3:Nat):Int):=by omega
 have e2:s.aA[a].aG=((q%3:Nat):Int):=by omega
 have e3:=(ES.1 hi).1;rw[e1]at a2 a4
 rw[e2]at a4
 simp only[bZ]at a4
 have ho:q / 3<s.ak.length:=by omega
 have hk:q%3<(s.aC (q / 3)).aH.length:=by omega
 have hka:=Dy (Jc hs.aA) ha;rw[e1,e2,e3]at hka
 have hkk:=JW hs.aA ((q / 3:Nat):Int) ((q%3:Nat):Int) i;have hr:=Dl hs i j v ((q / 3:Nat):Int) ((q%3:Nat):Int);have h5:=hr0.AU ho hk;have h3:=hs.aG ho hk;have h4:=hs.dW ho;have h6:(s.aC (q / 3)).dW≠0:=λe=>by rw[aB e]at h5;omega
 have h7:(s.aC (q / 3)).dW≠2:=λe=>h5.2 ⟨e,by omega⟩
 refine⟨by rw[uD];exact ho,by rw[rY _ ho];exact hk,by rw[Ld _ ho];omega,hr.1,?_⟩
 rw[Ef ho hk];simp only;omega
theorem jkD{v:Int}(h:vW s1 i j (pV s i j v) 0 D)(h1:s1.aA=s.aA){q:Nat}(hq:jbC D q=true)(z:DataW Unit):D.atKey (L6 (q:Int)) z=.lit (.int .i64 (rH s i j v ((q / 3:Nat):Int) ((q%3:Nat):Int))):=by
 have e:(q:Int)=((q / 3:Nat):Int)*3+((q%3:Nat):Int):=by omega
 have hq':has D (L6 (((q / 3:Nat):Int)*3+((q%3:Nat):Int)))=true:=by rw[<- e];exact hq
 have:=h.vals (q / 3) (q%3) (by omega) hq' z
 rw[<- e]at this
 rw[this,h1];rfl
def NQ(p:dA)(s:aJ)(i j:Nat)(n:Int)(D:DataW Unit)(q:Nat):aJ:=Qb p i (λo k=>rH s i j (over s i j n) o k) ((kU s D).take q) (wM s i j n (over s i j n))
theorem VX{n:Int}{q:Nat}(hq:q<(kU s D).length):NQ p s i j n D (q+1)=(qL p (NQ p s i j n D q) ((kU s D)[q] / 3) ((kU s D)[q]%3) (rH s i j (over s i j n) (((kU s D)[q] / 3:Nat):Int) (((kU s D)[q]%3:Nat):Int)) i).1:=by
 unfold NQ;rw[dO hq,MN];rfl
theorem je9{a b:Nat}(ha:a<b)(hb:b<(kU s D).length):(kU s D)[a]<(kU s D)[b]:=by
 have hpl:(kU s D).Pairwise (·<·):=tH _ wE
 exact iY.1 hpl a b (by omega) hb ha
theorem ZT{q:Nat}(hq:q<(kU s D).length):jbC D (kU s D)[q]=true/\(kU s D)[q]<s.ak.length*3:=by
 have:=kH.1 (bU hq);exact⟨this.2,gZ.1 this.1⟩
theorem jbA{n:Int}(hc:aQ p s=0)(f:zY p s i j n)(h:vW s1 i j l 0 D)(h1:s1.aA=s.aA)(h2:yt s1 i j=yt s i j):
  ∀q,q<=(kU s D).length->JC p i (λo k=>∃r,∃hr:r<(kU s D).length,r<q/\o=(kU s D)[r] / 3/\k=(kU s D)[r]%3) (wM s i j n (over s i j n)) (NQ p s i j n D q)
 |0,_=>by
  unfold NQ;rw[bV];exact JC.refl (jf (Le hc f))
 |q+1,hq=>by
  have t:=jbA hc f h h1 h2 q (by omega)
  have hm:=jbB (jq:=n) (v:=over s i j n) hc h h1 h2 (ZT (show q<(kU s D).length by omega)).1
  rw[VX (by omega)]
  refine(t.trans (JC.one t.right (t.may ?_ (.inr hm)))).mono ?_
  ·rintro⟨r,hr,hrq,e1,e2⟩;have:=je9 (s:=s) (D:=D) hrq (by omega)
   omega
  ·rintro o k (⟨r,hr,hrq,e1,e2⟩|⟨e1,e2⟩)
   ·exact⟨r,hr,by omega,e1,e2⟩
   ·exact⟨q,by omega,by omega,e1,e2⟩
theorem jkE{n:Int}(hc:aQ p s=0)(f:zY p s i j n)(h:vW s1 i j l 0 D)(h1:s1.aA=s.aA)(h2:yt s1 i j=yt s i j){q:Nat}(hq:q<(kU s D).length):
  lI p (NQ p s i j n D q)/\May (NQ p s i j n D q) ((kU s D)[q] / 3) ((kU s D)[q]%3) (rH s i j (over s i j n) (((kU s D)[q] / 3:Nat):Int) (((kU s D)[q]%3:Nat):Int)):=by
 have t:=jbA hc f h h1 h2 q (by omega)
 have hm:=jbB (jq:=n) (v:=over s i j n) hc h h1 h2 (ZT hq).1;refine⟨t.right,by rw[t.ak];exact hm.ho,by rw[t.aH];exact hm.hk,by rw[t.dW];exact hm.dW,hm.n0,?_⟩
 rw[t.dP]
 ·exact hm.dP
 ·rintro⟨r,hr,hrq,e1,e2⟩;have:=je9 (s:=s) (D:=D) hrq hq;omega
theorem jfZ{n:Int}(hc:aQ p s=0)(f:zY p s i j n)(h:vW s1 i j l 0 D)(h1:s1.aA=s.aA)(h2:yt s1 i j=yt s i j):NQ p s i j n D (kU s D).length=H8 p s i j n:=by
 have hr:=jf hc;have hcut:=jf (Le hc f);have kD:(wM s i j n (over s i j n)).ak.length=s.ak.length:=uD;unfold NQ kU;rw[fG,jav (jbC D) (λq hq=>jhQ hr.sane h h1 h2 hq)]
 unfold H8;rw[<- kD];refine Y8 (λo ho=>(hcut.sane.tN ho).2) (λo k hk=>?_) (λm o hm=>?_) _ (au _)
 ·have hn:=Dl hr.sane i j (over s i j n) (o:Int) (k:Int);by_cases h0:bW s.aA (o:Int) (k:Int) i=0
  ·omega
  ·obtain⟨_,hmem⟩:=Dh (gG.1 hr.sane.aA).1 (gG.1 hr.sane.aA).2 h0;obtain⟨a,ha,hae⟩:=aV hmem;have hh:=hr.sane.yR ha;rw[iL ha,hae]at hh
   simp only[bZ]at hh
   obtain⟨⟨a1,a2⟩,⟨a3,a4⟩,_⟩:=hh;rw[rY o (by omega)]at hk
   omega
 ·exact(Ep (b:=i) hcut (λo k ho hk=>by
   rw[uD]at ho
   rw[rY o ho]at hk
   exact Pm hr ho hk) m hm).aH o
end
end Wh
namespace Wh
open Go Go.RowKit Go.Shelf Go.Proofs Go.Maps Tryz
attribute [local go_sem] aT jW jm kC
def QV(B:Nat)(bn g v:Int)(s:aJ)(b:Nat)(w:World):Prop:=∃(V:SV) (mb:Nat),Bx w B b 95 (FH bn g v (.map (some mb))) V s/\B<=b/\B<=mb/\w.ownsMap prog 3 (plainElem (H:=Unit) prog 3) mb 0 (.map [])
theorem jlB(w:World)(v vs:Value)(p:dA)(s:aJ)(b g n:Int)(hp:mW w w.heap.size v p)(hv:lK w w.heap.size vs s):
  Calls prog 20 #[v,vs,.int .i64 b,.int .i64 g,.int .i64 n] w (nN (count p s b g n) w):=by
 obtain⟨Ab,cb,As,cs,rfl,hP',hBn,hSz,hlb,hls⟩:=sN hp;obtain⟨A0,c0,A1,c1,A2,c2,A3,c3,A4,c4,A5,c5,A6,c6,rfl,hV,hN,hO,hH,hM,hI,hU,hX,hl0,hl1,hl2,hl3,hl4,hl5,JA⟩:=oW hv;go_enter func20,ntmps20
 go_wp2_with fail;obtain⟨W0,hW0,hb0,lg,uZ,hsE,hK,hR⟩:=yD w p s Ab cb As cs A0 c0 A1 c1 A2 c2 A3 c3 A4 c4 A5 c5 A6 c6;rw[hW0];clear hW0;obtain⟨⟨y0,y1⟩,x0,x1,x2,x3,x4,x5,x6,eP,eU⟩:=hK.O W0 (aj W0.heap.size W0);go_wp2_with fail;clear y0 y1 x0 x1 x2 x3 x4 x5 x6 eP eU;refine(Nz _ _ _ p s (hP'.O _ hb0) (hV.O _ hb0)).mono ?_
 rintro e W1 ⟨rfl,h1⟩;have hB1:=hb0.trans (h1.mono hb0.size);obtain⟨⟨y0,y1⟩,x0,x1,x2,x3,x4,x5,x6,eP,eU⟩:=hK.O W1 (h1);by_cases hc:aQ p s=0
 ·have hc':=ah hc;have hsn:=ah (kM.1 hc).1;rw[hc];clear hc;go_wp2_with fail;clear y0 y1 x0 x1 x2 x3 x4 x5 x6 eP eU;refine(JI _ _ p b g (hP'.O _ hB1)).mono ?_
  rintro e W2 ⟨rfl,h2⟩;have h02:=h1.trans (h2.mono h1.size);have hB2:=hb0.trans (h02.mono hb0.size);clear h2 h1 hB1;obtain⟨⟨y0,y1⟩,x0,x1,x2,x3,x4,x5,x6,eP,eU⟩:=hK.O W2 (h02);cases ht:(lV p b&&iK p g)
  ·have bK:=ah (EW (n:=n) hc'.O (by rw[ht];rfl))
   clear ht;have fH:=hR.O _ h02;go_wp2_with (refine dB (.tmp 10) (.tmp 37) dH dH rfl fH rfl rfl (λw9 dM je=>?_))
   have dN:=Below.gB hB2 je;go_wp2_with fail;exact jo results20 dM rfl rfl (jQ bK.O dN)
  by_cases g2:n<0
  ·have bK:=ah (EW (n:=n) hc'.O (by rw[ht,lQ];exact nU.2 (.inl g2)))
   clear ht;have fH:=hR.O _ h02;go_wp2_with (refine dB (.tmp 10) (.tmp 37) dH dH rfl fH rfl rfl (λw9 dM je=>?_))
   have dN:=Below.gB hB2 je;go_wp2_with fail;exact jo results20 dM rfl rfl (jQ bK.O dN)
  by_cases g3:200<n
  ·have bK:=ah (EW (n:=n) hc'.O (by rw[ht,lQ];exact nU.2 (.inr g3)))
   clear ht;have fH:=hR.O _ h02;go_wp2_with (refine dB (.tmp 10) (.tmp 37) dH dH rfl fH rfl rfl (λw9 dM je=>?_))
   have dN:=Below.gB hB2 je;go_wp2_with fail;exact jo results20 dM rfl rfl (jQ bK.O dN)
  have gd2:decide (n<0)=false:=fA g2;have gd3:decide (200<n)=false:=fA g3;rw[bG]at ht
  obtain⟨ht1,ht2⟩:=ht;have ht1:=yT.1 ht1;have ht2:=vN.1 ht2;obtain⟨i,rfl⟩:∃i:Nat,b=i:=⟨b.toNat,by omega⟩
  obtain⟨j,rfl⟩:∃j:Nat,g=j:=⟨g.toNat,by omega⟩
  have hi:i<p.bQ.length:=by omega
  have hj:j<p.aP.length:=by omega
  have hio:i<s.on.length:=by rw[hsn.O.tY];exact hi
  have hjr:j<(fO s.on i).length:=by rw[hsn.O.rowLen hi];exact hj
  have hjf:j<s.bg.length:=by rw[hsn.O.bg.1];exact hj
  have jnH:(i:Int)<(s.on.length:Int):=by omega
  have jnF:(j:Int)<((fO s.on i).length:Int):=by omega
  have jtG:(j:Int)<(s.bg.length:Int):=by omega
  obtain⟨Ar,cr,or0,TQ,Yx,vS⟩:=(hN.O W2 hB2).row hio;obtain⟨or1,lr1,QW⟩:=vS.at_.int hjr;change W2.cell? _=some (.int .i64 (cell s.on i j))at QW
  obtain⟨or2,lr2,rr2⟩:=(hX.O W2 hB2).at_.int hjf;change W2.cell? _=some (.int .i64 (bI s.bg j))at rr2
  have yu:=hsn.O.cell hi hj;have hfx:=hsn.O.bg.2 hj;have hw1:IntKind.i64.wrap (bI s.bg j+n)=bI s.bg j+n:=aN _ (by omega)
  have hw2:IntKind.i64.wrap (bI s.bg j+n - cell s.on i j)=bI s.bg j+n - cell s.on i j:=aN _ (by omega)
  go_wp2_with fail;go_quiet (fail)
  have Nq:=below_drewN h02 nq;have hBd:=below_drewN hB2 nq;clear y0 y1 x0 x1 x2 x3 x4 x5 x6 eP eU;clear or0 TQ Yx vS or1 lr1 QW or2 lr2 rr2 hw1 hw2 h02 hB2;generalize W2.drewN nq=W3 at Nq hBd ⊢
  obtain⟨⟨y0,y1⟩,x0,x1,x2,x3,x4,x5,x6,eP,eU⟩:=hK.O W3 (Nq);by_cases g4:bI s.bg j+n - cell s.on i j< -1048576
  ·have bK:=ah (QS hc'.O hi hj ⟨by omega,by omega⟩ (.inl g4))
   have fH:=hR.O _ Nq;go_wp2_with (refine dB (.tmp 10) (.tmp 60) dH dH rfl fH rfl rfl (λw9 dM je=>?_))
   have dN:=Below.gB hBd je;go_wp2_with fail;exact jo results20 dM rfl rfl (jQ bK.O dN)
  by_cases g5:1048576<bI s.bg j+n - cell s.on i j
  ·have bK:=ah (QS hc'.O hi hj ⟨by omega,by omega⟩ (.inr g5))
   have fH:=hR.O _ Nq;go_wp2_with (refine dB (.tmp 10) (.tmp 60) dH dH rfl fH rfl rfl (λw9 dM je=>?_))
   have dN:=Below.gB hBd je;go_wp2_with fail;exact jo results20 dM rfl rfl (jQ bK.O dN)
  have gd4:decide (bI s.bg j+n - cell s.on i j< -1048576)=false:=fA g4;have gd5:decide (1048576<bI s.bg j+n - cell s.on i j)=false:=fA g5;have hcs:=ah (show zY p s i j n from⟨hi,hj,by omega,by omega,by omega,by omega⟩)
  have bK:=ah (jcx hc'.O hcs.O);have hbd:=EY hsn.O i j;have hw4:IntKind.i64.wrap (bound s i j - n)=bound s i j - n:=aN _ (by omega)
  have hmm:=@run_makeMap prog;go_wp2_with fail;clear y0 y1 x0 x1 x2 x3 x4 x5 x6 eP eU;clear jnH jnF jtG;have hmm':=ah hmm;clear hmm;refine qZ 14 [λgq _=>gq 61=.agg #[.slice A0 s.on.length c0,.slice A1 s.ak.length c1,.slice A2 s.aA.length c2,.slice A3 s.aF.length c3,.slice A4 s.gY.length c4,.slice A5 s.O.length c5,.slice A6 s.bg.length c6],λgq w'=>(λv w'=>∃V:SV,v=V.val/\dK w' W3.heap.size V s) (gq 62) w',λgq _=>gq 63=.int .i64 i,λgq _=>gq 64=.int .i64 j,λgq _=>gq 65=.agg #[.slice A0 s.on.length c0,.slice A1 s.ak.length c1,.slice A2 s.aA.length c2,.slice A3 s.aF.length c3,.slice A4 s.gY.length c4,.slice A5 s.O.length c5,.slice A6 s.bg.length c6],λgq _=>gq 66=.int .i64 i,λgq _=>gq 67=.int .i64 j,λgq w'=>(λv w'=>v=.int .i64 (bound s i j)) (gq 68) w',λgq _=>gq 69=.int .i64 n,λgq _=>gq 70=.int .i64 (bound s i j - n),λgq w'=>(λv w'=>∃mb,v=.map (some mb)/\W3.heap.size<=mb/\w'.ownsMap prog 3 (plainElem (H:=Unit) prog 3) mb 0 (.map [])) (gq 71) w',λgq w'=>(λv w'=>∃(V:SV) (mb:Nat),v=.agg #[V.on,V.ak,V.aA,V.aF,V.gY,V.O,V.bg,.int .i64 i,.int .i64 j,.int .i64 (bound s i j - n),.map (some mb)]/\dK w' W3.heap.size V s/\W3.heap.size<=mb/\w'.ownsMap prog 3 (plainElem (H:=Unit) prog 3) mb 0 (.map [])) (gq 72) w',λgq w'=>(λv w'=>∃bb,v=.pointer (some ⟨bb,0,none⟩)/\QV W3.heap.size i j (bound s i j - n) s bb w') (gq 73) w',λgq w'=>(λv w'=>∃bb,v=.pointer (some ⟨bb,0,none⟩)/\QV W3.heap.size i j (bound s i j - n) s bb w') (gq 14) w'] (by kernel_rfl) (by kernel_rfl) rfl (by kernel_rfl) ?_ (λf W5 hb5 hR=>?_)
  simp only[bC,bV];refine dX.cons (iR.val rfl rfl (λgq w' hb ho hd=>?_)) ?_
  ·have e6:=ho 6 rfl;obtain⟨⟨y0,y1⟩,x0,x1,x2,x3,x4,x5,x6,eP,eU⟩:=hK.O w' (Nq.trans (hb.mono Nq.size));go_simp
  refine dX.cons (iR.one (d:=62) (p:=(λv w'=>∃V:SV,v=V.val/\dK w' W3.heap.size V s)) rfl rfl (λv w1 w2 h hb=>let ⟨V,h1,h2⟩:=h;⟨V,h1,h2.below hb⟩) (λgq w' hb ho hd=>?_)) ?_
  ·have e61:gq 61=.agg #[.slice A0 s.on.length c0,.slice A1 s.ak.length c1,.slice A2 s.aA.length c2,.slice A3 s.aF.length c3,.slice A4 s.gY.length c4,.slice A5 s.O.length c5,.slice A6 s.bg.length c6]:=hd ⟨0,.data⟩ (by simp) rfl (by decide)
   unfold iT;go_simp
   refine(ja1 w' _ p s (hV.O _ (hBd.trans (hb.mono hBd.size))) hsn.O).mono ?_
   rintro e w2 ⟨u,rfl,⟨V,rfl,ho2⟩,hb2⟩;exact⟨_,rfl,⟨V,rfl,ho2.from_ hb.size⟩,hb2⟩
  refine dX.cons (iR.val rfl rfl (λgq w' hb ho hd=>?_)) ?_
  ·have e2:=ho 2 rfl;go_simp
  refine dX.cons (iR.val rfl rfl (λgq w' hb ho hd=>?_)) ?_
  ·have e3:=ho 3 rfl;go_simp
  refine dX.cons (iR.val rfl rfl (λgq w' hb ho hd=>?_)) ?_
  ·have e6:=ho 6 rfl;obtain⟨⟨y0,y1⟩,x0,x1,x2,x3,x4,x5,x6,eP,eU⟩:=hK.O w' (Nq.trans (hb.mono Nq.size));go_simp
  refine dX.cons (iR.val rfl rfl (λgq w' hb ho hd=>?_)) ?_
  ·have e2:=ho 2 rfl;go_simp
  refine dX.cons (iR.val rfl rfl (λgq w' hb ho hd=>?_)) ?_
  ·have e3:=ho 3 rfl;go_simp
  refine dX.cons (iR.one (d:=68) (p:=(λv w'=>v=.int .i64 (bound s i j))) rfl rfl (λv w1 w2 h hb=>h) (λgq w' hb ho hd=>?_)) ?_
  ·have e65:gq 65=.agg #[.slice A0 s.on.length c0,.slice A1 s.ak.length c1,.slice A2 s.aA.length c2,.slice A3 s.aF.length c3,.slice A4 s.gY.length c4,.slice A5 s.O.length c5,.slice A6 s.bg.length c6]:=hd ⟨4,.data⟩ (by simp) rfl (by decide)
   have e66:gq 66=.int .i64 i:=hd ⟨5,.data⟩ (by simp) rfl (by decide)
   have e67:gq 67=.int .i64 j:=hd ⟨6,.data⟩ (by simp) rfl (by decide)
   unfold iT;go_simp
   refine(Zt w' _ p s i j (hV.O _ (hBd.trans (hb.mono hBd.size))) hsn.O).mono ?_
   rintro e w2 ⟨rfl,hb2⟩;exact⟨_,rfl,rfl,hb2⟩
  refine dX.cons (iR.val rfl rfl (λgq w' hb ho hd=>?_)) ?_
  ·have e4:=ho 4 rfl;go_simp
  refine dX.cons (iR.val rfl rfl (λgq w' hb ho hd=>?_)) ?_
  ·have e68:(gq 68)=.int .i64 (bound s i j):=hd ⟨7,.data⟩ (by simp) rfl (by decide)
   have e69:gq 69=.int .i64 n:=hd ⟨8,.data⟩ (by simp) rfl (by decide)
   go_simp
  refine dX.cons (iR.one (d:=71) (p:=(λv w'=>∃mb,v=.map (some mb)/\W3.heap.size<=mb/\w'.ownsMap prog 3 (plainElem (H:=Unit) prog 3) mb 0 (.map []))) rfl rfl (λv w1 w2 h hb=>let ⟨mb,h1,h2,h3⟩:=h;⟨mb,h1,h2,h3.kept (nV (row:=none) hb) (by simp)⟩) (λgq w' hb ho hd=>?_)) ?_
  ·have hmm:=hmm'.O;unfold iT;go_simp
   exact⟨⟨hb.size,World.ownsMap_made _ _ _ _⟩,(aj _ _).alloc (au _) _⟩
  refine dX.cons (iR.one (d:=72) (p:=(λv w'=>∃(V:SV) (mb:Nat),v=.agg #[V.on,V.ak,V.aA,V.aF,V.gY,V.O,V.bg,.int .i64 i,.int .i64 j,.int .i64 (bound s i j - n),.map (some mb)]/\dK w' W3.heap.size V s/\W3.heap.size<=mb/\w'.ownsMap prog 3 (plainElem (H:=Unit) prog 3) mb 0 (.map []))) rfl rfl (λv w1 w2 h hb=>let ⟨V,mb,h1,h2,h3,h4⟩:=h;⟨V,mb,h1,h2.below hb,h3,h4.kept (nV (row:=none) hb) (by simp)⟩) (λgq w' hb ho hd=>?_)) ?_
  ·have e62:∃V:SV,(gq 62)=V.val/\dK w' W3.heap.size V s:=hd ⟨1,.data⟩ (by simp) rfl (by decide)
   have e63:gq 63=.int .i64 i:=hd ⟨2,.data⟩ (by simp) rfl (by decide)
   have e64:gq 64=.int .i64 j:=hd ⟨3,.data⟩ (by simp) rfl (by decide)
   have e70:gq 70=.int .i64 (bound s i j - n):=hd ⟨9,.data⟩ (by simp) rfl (by decide)
   have e71:∃mb,(gq 71)=.map (some mb)/\W3.heap.size<=mb/\w'.ownsMap prog 3 (plainElem (H:=Unit) prog 3) mb 0 (.map []):=hd ⟨10,.data⟩ (by simp) rfl (by decide)
   obtain⟨⟨k0,k1,k2,k3,k4,k5,k6,k7,k8⟩,e62,ho2⟩:=e62;simp only[SV.val]at e62
   obtain⟨mb,e71,hmb,lC⟩:=e71;have jnt:=ah ho2;have hown':=ah lC;have jkU:=ah hmb;clear ho2 lC hmb;unfold iT;go_simp
   refine⟨⟨⟨k0,k1,k2,k3,k4,k5,k6,k7,k8⟩,mb,by simp,jnt.O,jkU.O,hown'.O⟩,aj _ _⟩
  refine dX.cons (iR.one (d:=73) (p:=(λv w'=>∃bb,v=.pointer (some ⟨bb,0,none⟩)/\QV W3.heap.size i j (bound s i j - n) s bb w')) rfl rfl (λv w1 w2 h hb=>let ⟨bb,h1,V,mb,h2,h3,h4,h5⟩:=h;⟨bb,h1,V,mb,h2.below hb,h3,h4,h5.kept (nV (row:=none) hb) (by simp)⟩) (λgq w' hb ho hd=>?_)) ?_
  ·have e72:∃(V:SV) (mb:Nat),(gq 72)=.agg #[V.on,V.ak,V.aA,V.aF,V.gY,V.O,V.bg,.int .i64 i,.int .i64 j,.int .i64 (bound s i j - n),.map (some mb)]/\dK w' W3.heap.size V s/\W3.heap.size<=mb/\w'.ownsMap prog 3 (plainElem (H:=Unit) prog 3) mb 0 (.map []):=hd ⟨11,.data⟩ (by simp) rfl (by decide)
   obtain⟨⟨k0,k1,k2,k3,k4,k5,k6,k7,k8⟩,mb,e72,ho2,hmb,lC⟩:=e72;simp only at e72
   have jnt:=ah ho2;have hown':=ah lC;have jkU:=ah hmb;have hbz:=ah hb.size;clear ho2 lC hmb;unfold iT;go_simp
   exact⟨⟨⟨k0,k1,k2,k3,k4,k5,k6,k7,k8⟩,mb,⟨iV.new _ _ _,(jnt.O).alloc _,jfw⟩,hbz.O,jkU.O,hown'.O.alloc _⟩,(aj _ _).alloc (au _) _⟩
  refine dX.cons (iR.one (d:=14) (p:=(λv w'=>∃bb,v=.pointer (some ⟨bb,0,none⟩)/\QV W3.heap.size i j (bound s i j - n) s bb w')) rfl rfl (λv w1 w2 h hb=>let ⟨bb,h1,V,mb,h2,h3,h4,h5⟩:=h;⟨bb,h1,V,mb,h2.below hb,h3,h4,h5.kept (nV (row:=none) hb) (by simp)⟩) (λgq w' hb ho hd=>?_)) ?_
  ·have e73:∃bb,(gq 73)=.pointer (some ⟨bb,0,none⟩)/\QV W3.heap.size i j (bound s i j - n) s bb w':=hd ⟨12,.data⟩ (by simp) rfl (by decide)
   obtain⟨bb,e73,hcb⟩:=e73;have hcb':=ah hcb;clear hcb;unfold iT;go_simp
   exact⟨hcb'.O,aj _ _⟩
  exact dX.nil;obtain⟨r61,r62,r63,r64,r65,r66,r67,r68,r69,r70,r71,r72,r73,kK,_⟩:=hR;replace r62:∃V:SV,(f 62)=V.val/\dK W5 W3.heap.size V s:=r62;replace r68:(f 68)=.int .i64 (bound s i j):=r68;replace r71:∃mb,(f 71)=.map (some mb)/\W3.heap.size<=mb/\W5.ownsMap prog 3 (plainElem (H:=Unit) prog 3) mb 0 (.map []):=r71;replace r72:∃(V:SV) (mb:Nat),(f 72)=.agg #[V.on,V.ak,V.aA,V.aF,V.gY,V.O,V.bg,.int .i64 i,.int .i64 j,.int .i64 (bound s i j - n),.map (some mb)]/\dK W5 W3.heap.size V s/\W3.heap.size<=mb/\W5.ownsMap prog 3 (plainElem (H:=Unit) prog 3) mb 0 (.map []):=r72;replace r73:∃bb,(f 73)=.pointer (some ⟨bb,0,none⟩)/\QV W3.heap.size i j (bound s i j - n) s bb W5:=r73;replace kK:∃bb,(f 14)=.pointer (some ⟨bb,0,none⟩)/\QV W3.heap.size i j (bound s i j - n) s bb W5:=kK;simp only[kG,zB,bC,bV,eG,gW,eX,fF,fB,gV,bM,dF,dL,r61,r63,r64,r65,r66,r67,r68,r69,r70];clear r61 r63 r64 r65 r66 r67 r68 r69 r70;obtain⟨bx,kK,V,mb,hx5,hbx,hmb,lC⟩:=kK;simp only[kK];clear kK r62 r71 r72 r73;refine fC ?_
  have h05:=Nq.trans (hb5.mono Nq.size);have hle:w.heap.size<=W3.heap.size:=hBd.size;have hle0:W0.heap.size<=W3.heap.size:=Nq.size;have jhY:=ah hx5;have hown':=ah lC;have jk5:=hx5.lt;clear hx5 lC Nq hBd hb5 hmm' hw4;generalize W3.heap.size=aO at jhY hbx hmb hle hle0
  obtain⟨gf,cf,juL,ef,jnK,hbf,rf⟩:=dK.BF jhY.O.own.bg (g:=j) (by rw[hsn.O.bg.1];exact hj)
  have c6:=jhY.O.cells.2.2.2.2.2.2;rw[ef]at c6
  have ef':=ah ef;clear ef;go_wp2_with (refine TF rfl (.tmp 81) (.tmp 80) rfl rfl (g:=j) (q:=bI s.bg j+n - cell s.on i j) jhY.O (by rw[hsn.O.bg.1];exact hj) ef'.O rfl rfl (λw6 hx6 NW=>?_);refine aW ?_)
  unfold Hid;have hown6:=AP hown'.O NW (λh=>CU hown'.O hbf h)
  have h06:=h05.trans (NW.below (B:=W0.heap.size) (λq hq=>by omega) h05.size)
  have Wi:=ah hx6;have jdV:=ah hown6;clear hx6 NW hown6 hown' jhY h05 c6 rf hbf ef' jnK;obtain⟨Ic,con,PE,gr,cr,cur,Ot,Wy,Oa,r0,er,Wx,hbr,rc⟩:=Wi.O.own.Py (b:=i) (g:=j) hio hjr;have c0:=Wi.O.cells.1;rw[Ot]at c0
  change w6.cell? _=some (.slice _ (fO s.on i).length _)at r0
  change w6.cell? _=some (.slice _ s.on.length _)at c0
  have er':=ah er;clear Ot er Oa;have jnH:(i:Int)<(s.on.length:Int):=by omega
  have jnF:(j:Int)<((fO s.on i).length:Int):=by omega
  go_wp2_with (refine GU rfl (.tmp 92) (.tmp 91) rfl rfl (i:=i) (g:=j) (q:=n) Wi.O hio hjr er'.O rfl rfl (λw7 hx7 Ee=>?_);refine aW ?_)
  unfold Hid;have yM:=AP jdV.O Ee (λh=>CU jdV.O hbr h)
  have h07:=h06.trans (Ee.below (B:=W0.heap.size) (λq hq=>by omega) h06.size)
  have zx:=ah hx7;have Z5:=ah yM;clear hx7 Ee yM jdV Wi h06 c0 r0 rc hbr er' Wy Wx jnH jnF;have jnx:=ah (show ∀x∈s.aF,1<=x.n/\x.n<=200 from λx hx=>by
   obtain⟨q,hq,rfl⟩:=aV hx;have:=hsn.O.bH hq;rw[pI hq]at this
   exact⟨this.2.2.2.2.1,this.2.2.2.2.2⟩)
  have hmid:=gX.VO (C:=Iq i j) (l:=s.aF) (λx hx=>by have:=(jnx.O x hx).1;show 0<=x.n;omega) (bound s i j - n) 0
  have hm8:=hsn.O.vJ;go_wp2_with fail;refine(jlx w7 zx.O (by omega) hm8 jnx.O (by omega)).mono ?_
  rintro e w8 ⟨rfl,V8,hV8,KQ,AX⟩;have jim:=AP Z5.O AX (λh=>h.elim (λh=>CU Z5.O zx.O.box h) (λh=>by
   obtain⟨cur,hcb⟩:=zx.O.own.aF.block h;obtain⟨o',ho1,ho2⟩:=JL Z5.O;rw[hcb]at ho1
   injection ho1 with ho1
   subst ho1;cases ho2))
  have DY:=h07.trans (AX.below (B:=W0.heap.size) (λq hq=>by
   rcases hq with rfl|hq
   ·omega
   ·have:=(zx.O.own.aF.size q hq).1;omega) h07.size)
  have vP:=ah KQ;have jil:=ah jim;have hin:=ah (show ∀q (hq:q<s.aA.length),∃o k:Nat,s.aA[q].aC=o/\s.aA[q].aG=k/\o<s.ak.length/\k<(s.aC o).aH.length from λq hq=>by
   have:=hsn.O.yR hq;rw[iL hq]at this
   obtain⟨⟨a1,a2⟩,⟨a3,a4⟩,_⟩:=this;refine⟨s.aA[q].aC.toNat,s.aA[q].aG.toNat,by omega,by omega,by omega,by omega⟩)
  have hbk:=ah (show ∀o k:Nat,o<s.ak.length->k<(s.aC o).aH.length->0<=(s.aG o k).dP/\(s.aG o k).dP<=200 from λo k ho hk=>by
   have:=hsn.O.aG ho hk;omega)
  have jq1:=aI jim.lt (au _);clear KQ AX jim Z5 zx h07;go_wp2_with fail;refine(jlA w8 vP.O hbx jq1 hmb jil.O hsn.O.aA (by omega) hin.O hbk.O).mono ?_
  rintro e w9 ⟨rfl,V9,ov9,D,hV9,uO,wJ,jmc,jbR⟩;have jiO:=jgw (b:=i) (g:=j) (jq:=n) hsn.O;have Dj:Bx w9 aO bx 95 (FH i j ov9 (.map (some mb))) V9 (wM s i j n (over s i j n)):=by rw[jiO];exact uO
  have hcH:pV s i j (over s i j n)=(yt s i j).rest s.aA ((Iq i j).mid s.aF (bound s i j - n) 0).2:=kX aJ.aA jiO;have h09:=DY.trans (wJ.below (B:=W0.heap.size) (λq hq=>by
   rcases hq with rfl|hq|rfl|⟨o,ho,hq⟩
   ·omega
   ·have:=(vP.O.own.aA.size q hq).1;omega
   ·omega
   ·have:=((vP.O.own.aG o (by rw[<- vP.O.own.llen];exact ho)).size q hq).1
    omega) DY.size)
  obtain⟨s1,hs1⟩:∃s1:aJ,s1={s with on:=setCell s.on i j n,bg:=s.bg.set j (bI s.bg j+n - cell s.on i j),aF:=(Iq i j).rest s.aF (bound s i j - n)}:=⟨_,rfl⟩
  have jiz:vW s1 i j (pV s i j (over s i j n)) 0 D:=by rw[hcH,hs1];exact jmc
  have h1:s1.aA=s.aA:=by rw[hs1]
  have h2:yt s1 i j=yt s i j:=by rw[hs1];rfl
  have hmp:=ah jiz;have h1':=ah h1;have h2':=ah h2;have jdN:=ah Dj;have hlenh:s.aA.length<=72:=su hsn.O.aA;have SK:=ah jbR;have jr4:=ah (show Maps.size D<=1000000 from aY jbR.size_le (by show s.aA.length<=1000000;omega))
  have hoL:=ah (show s.ak.length<=4 from hsn.O.qH)
  have z9:=Dj.box.cell (j:=10) rfl;have lb9:=Dj.lt;clear jiO hcH jmc jiz h1 h2 hs1 uO Dj wJ jbR DY vP jil hV9 hV8 jq1 hin hbk hmid jnx;go_wp2_with fail;refine(keysOf (some mb) w9).mono ?_
  rintro e w10 ⟨rfl,rfl⟩;go_wp2_with fail;refine(jdd mb _ D _ w9 SK.O jr4.O).mono ?_
  rintro e w11 ⟨vk,ss,rfl,hperm,vS,jrB⟩;have hks:=jbz hsn.O hmp.O h1'.O SK.O hperm;have hkl:ss.length=(kU s D).length:=by
   have:=kX List.length hks;rw[List.length_mergeSort]at this
   rw[this];unfold x9;exact fU ..
  have hvk:Own jJ 1 3 w11 (w9.heap.size+1) vk (x9 (kU s D)):=by
   rw[hks,hkl]at vS
   unfold Own;have e1:(x9 (kU s D)).length=(kU s D).length:=by unfold x9;exact fU ..
   have e2:(x9 (kU s D)).flatMap jJ=(x9 (kU s D)).map encZ:=by
    induction x9 (kU s D)with
    |nil=>rfl
    |cons y r ih=>simp[jJ,ih]
   rw[e1,e2];rw[cO]at vS
   exact vS
  have jb6:Below w9.heap.size w9 w11:=((aj _ w9).alloc (au _) _).trans (jrB.mono (by simp))
  obtain⟨Ak,ck,jqG⟩:=hvk.isSlice;have hnl:(x9 (kU s D)).length=(kU s D).length:=by unfold x9;exact fU ..
  rw[hnl]at jqG
  subst jqG;have jm8:=ah hvk;obtain⟨ksT,jq8⟩:∃ksT:Nat->Prop,ksT=λq=>q=bx\/∃o,o<V9.aH.length/\(V9.aG o).ownBlock=some q:=⟨_,rfl⟩
  have hkT:=ah (show ∀q,ksT q->aO<=q/\q<w9.heap.size/\q≠mb from λq hq=>by
   rw[jq8]at hq
   rcases hq with rfl|⟨o,ho,hq⟩
   ·exact⟨hbx,lb9,λh=>CU SK.O jdN.O.box h.symm⟩
   ·have hsz:=(jdN.O.own.aG o (by rw[<- jdN.O.own.llen];exact ho)).size q hq
    refine⟨hsz.1,hsz.2,λh=>?_⟩
    obtain⟨cur,hcb⟩:=(jdN.O.own.aG o (by rw[<- jdN.O.own.llen];exact ho)).block hq
    obtain⟨o',ho1,ho2⟩:=JL SK.O;rw[<- h,hcb]at ho1
    injection ho1 with ho1
    subst ho1;cases ho2)
  have h011:=h09.trans (jb6.mono h09.size);have XV:=ah (show Bx w11 aO bx 95 (FH i j ov9 (.map (some mb))) V9 (NQ p s i j n D 0)from jdN.O.below jb6)
  have jdW:=ah (SK.O.kept (nV (row:=none) jb6) (by simp))
  have hKl:(kU s D).length<=12:=by
   unfold kU;refine aY (kY _ _) ?_
   rw[List.length_range];have:=hoL.O;omega
  have jtx:aO<=w9.heap.size:=by omega
  have h9s:=jb6.size;clear hks hkl hvk vS hperm hnl z9 jrB jdN SK h09 jb6 jr4;generalize w9.heap.size=z9 at jm8 hkT lb9 jtx h9s ⊢
  go_wp2_with fail;have hmp2:=hmp;go_loopw[104] (λq' wr=>∃(q:Nat) (V':SV),q<=(kU s D).length/\q'=.int .i64 q/\V'={V9 with aA:=V'.aA}/\Bx wr aO bx 95 (FH i j ov9 (.map (some mb))) V' (NQ p s i j n D q)/\Step ksT w11 wr) (λq' _=>(kU s D).length - (RowKit.intOf q').toNat)
  case atStart=>exact⟨0,V9,aK _,rfl,rfl,XV.O,Step.refl _ _⟩
  case round=>
   obtain⟨q,V',hq,rfl,hV',hx,hst⟩:=hrel;have hV2:=ah hV';have hst':=ah hst;have hx':=ah hx;have h0r:=h011.trans (hst.below (B:=W0.heap.size) (λk hk=>by have:=(hkT.O k hk).1;omega) h011.size)
   have hBr:=hb0.trans (h0r.mono hb0.size);clear hV' hst hx;by_cases hq1:q<(kU s D).length
   ·have hqi:(q:Int)<((kU s D).length:Int):=by omega
    obtain⟨gk,ck',curk,ek,_,_,rk⟩:=dK.BF (jm8.O.step hst'.O (λk hk hh=>by have:=(jm8.O.size k hk).1;have:=(hkT.O k hh).2.1;omega)) (g:=q) (by unfold x9;rw[fU];exact hq1)
    rw[ZM hq1]at rk
    injection ek with ek ek2 ek3
    clear ek2 ek3;subst ek;obtain⟨kq,hkq⟩:∃kq,(kU s D)[q]=kq:=⟨_,rfl⟩;have hkm:=ZT hq1;have hmay:=ah (jkE hc'.O hcs.O hmp.O h1'.O h2'.O hq1);have zU:=ah (VX (p:=p) (i:=i) (j:=j) (n:=n) hq1);rw[hkq]at rk hkm hmay zU
    have hkv:=ah (λz=>jkD hmp.O h1'.O hkm.1 z)
    have hoL':=hoL.O;have hkq12:kq<12:=by omega
    have hkqh:=ah hkq;clear hkq;go_wp2_with fail;have z10:=hx'.O.box.cell (j:=10) rfl;have lbr:=hx'.O.lt;have hownr:=ah (AP jdW.O hst'.O (λhh=>(hkT.O mb hh).2.2 rfl))
    have xB:keyOf prog 3 (.int .i64 (kq:Int))=some (L6 (kq:Int)):=jhR (by omega)
    obtain⟨nv,hnv⟩:∃nv:Int,rH s i j (over s i j n) ((kq / 3:Nat):Int) ((kq%3:Nat):Int)=nv:=⟨_,rfl⟩;rw[hnv]at hkv hmay zU
    have hlook:=ah (show ∀w',Below wr.heap.size wr w'->(Instr.lookup 93 (.map (some mb)) (.int .i64 (kq:Int)) false).run prog w'=.ok (.int .i64 nv) w' from λw' hb=>by
     obtain⟨c,h1,h2,_⟩:=(hownr.O.kept (nV (row:=none) hb) (by simp)).lookup_int ZQ underlying93 underlying3 (jeJ w') xB
     rw[hkv.O]at h2
     injection h2 with h2
     injection h2 with _ h2
     rw[<- h2]at h1
     exact h1)
    have hd3:IntKind.i64.wrap ((kq:Int) / 3)=(kq:Int) / 3:=aN _ (by omega)
    have hm3:IntKind.i64.wrap ((kq:Int)%3)=(kq:Int)%3:=aN _ (by omega)
    have hm4:(kq:Int).tmod 3=(kq:Int)%3:=jaI (by omega)
    have hnvh:=ah hnv;clear hnv hkv xB rk;refine qZ 15 [λgq _=>gq 108=.agg #[.slice Ab p.bQ.length cb,.slice As p.aP.length cs],λgq _=>gq 109=.pointer (some ⟨bx,0,none⟩),λgq _=>gq 110=.pointer (some ⟨bx,0,none⟩),λgq _=>gq 111=.pointer (some ⟨bx,0,none⟩),λgq _=>gq 112=.int .i64 kq,λgq _=>gq 113=.int .i64 ((kq:Int) / 3),λgq _=>gq 114=.int .i64 kq,λgq _=>gq 115=.int .i64 ((kq:Int)%3),λgq _=>gq 116=.pointer (some ⟨bx,0,none⟩),λgq _=>gq 117=.pointer (some ⟨bx,0,none⟩),λgq _=>gq 118=.pointer (some ⟨bx,10,none⟩),λgq _=>gq 119=.map (some mb),λgq _=>gq 120=.int .i64 kq,λgq _=>gq 121=.int .i64 nv,λgq _=>gq 122=.int .i64 i] (by kernel_rfl) (by kernel_rfl) rfl (by kernel_rfl) ?_ (λf W5 hb5 hR=>?_)
    simp only[bC,bV];refine dX.cons (iR.val rfl rfl (λgq w' hb ho hd=>?_)) ?_
    ·have e5:=ho 5 rfl;obtain⟨⟨y0,y1⟩,x0,x1,x2,x3,x4,x5,x6,eP,eU⟩:=hK.O w' (h0r.trans (hb.mono h0r.size));go_simp
    refine dX.cons (iR.val rfl rfl (λgq w' hb ho hd=>?_)) ?_
    ·have e14:=ho 14 rfl;go_simp
    refine dX.cons (iR.val rfl rfl (λgq w' hb ho hd=>?_)) ?_
    ·have e109:gq 109=.pointer (some ⟨bx,0,none⟩):=hd ⟨1,.data⟩ (by simp) rfl (by decide)
     go_simp
    refine dX.cons (iR.val rfl rfl (λgq w' hb ho hd=>?_)) ?_
    ·have juG:gq 110=.pointer (some ⟨bx,0,none⟩):=hd ⟨2,.data⟩ (by simp) rfl (by decide)
     go_simp
    refine dX.cons (iR.val rfl rfl (λgq w' hb ho hd=>?_)) ?_
    ·have e16:=ho 16 rfl;go_simp
    refine dX.cons (iR.val rfl rfl (λgq w' hb ho hd=>?_)) ?_
    ·have jov:gq 112=.int .i64 kq:=hd ⟨4,.data⟩ (by simp) rfl (by decide)
     go_simp
    refine dX.cons (iR.val rfl rfl (λgq w' hb ho hd=>?_)) ?_
    ·have e16:=ho 16 rfl;go_simp
    refine dX.cons (iR.val rfl rfl (λgq w' hb ho hd=>?_)) ?_
    ·have e114:gq 114=.int .i64 kq:=hd ⟨6,.data⟩ (by simp) rfl (by decide)
     go_simp
    refine dX.cons (iR.val rfl rfl (λgq w' hb ho hd=>?_)) ?_
    ·have e14:=ho 14 rfl;go_simp
    refine dX.cons (iR.val rfl rfl (λgq w' hb ho hd=>?_)) ?_
    ·have e116:gq 116=.pointer (some ⟨bx,0,none⟩):=hd ⟨8,.data⟩ (by simp) rfl (by decide)
     go_simp
    refine dX.cons (iR.val rfl rfl (λgq w' hb ho hd=>?_)) ?_
    ·have e117:gq 117=.pointer (some ⟨bx,0,none⟩):=hd ⟨9,.data⟩ (by simp) rfl (by decide)
     go_simp
    refine dX.cons (iR.val rfl rfl (λgq w' hb ho hd=>?_)) ?_
    ·have e118:gq 118=.pointer (some ⟨bx,10,none⟩):=hd ⟨10,.data⟩ (by simp) rfl (by decide)
     have x1:=(hb.cell (p:=⟨bx,10,none⟩) lbr).trans z10;go_simp
    refine dX.cons (iR.val rfl rfl (λgq w' hb ho hd=>?_)) ?_
    ·have e16:=ho 16 rfl;go_simp
    refine dX.cons (iR.val rfl rfl (λgq w' hb ho hd=>?_)) ?_
    ·have e119:gq 119=.map (some mb):=hd ⟨11,.data⟩ (by simp) rfl (by decide)
     have e120:gq 120=.int .i64 kq:=hd ⟨12,.data⟩ (by simp) rfl (by decide)
     have e3:=hlook.O w' hb;simp only[execOp,jW,e119,e120,jg,e3,Result.andThen,jw]
    refine dX.cons (iR.val rfl rfl (λgq w' hb ho hd=>?_)) ?_
    ·have e2:=ho 2 rfl;go_simp
    exact dX.nil;obtain⟨jhA,jhz,jhy,jhx,jhw,jhv,jhu,jp9,jp8,jp7,jp6,jp5,jp4,jp3,jp2,_⟩:=hR;simp only[kG,zB,bC,bV,eG,gW,eX,fF,fB,gV,bM,dF,dL,jhA,jhz,jhy,jhx,jhw,jhv,jhu,jp9,jp8,jp7,jp6,jp5,jp4,jp3,jp2];clear jhA jhz jhy jhx jhw jhv jhu jp9 jp8 jp7 jp6 jp5 jp4 jp3 jp2;have hq3:(kq:Int) / 3=((kq / 3:Nat):Int):=by omega
    have hr3:(kq:Int)%3=((kq%3:Nat):Int):=by omega
    rw[hq3,hr3];have h05:=h0r.trans (hb5.mono h0r.size);have P6:=hb0.trans (h05.mono hb0.size);have hx5:=ah (hx'.O.below hb5);clear hq3 hr3 hd3 hm3 hm4 z10;go_wp2_with fail;refine(jeH W5 _ p _ (kq / 3) (kq%3) nv i (hP'.O _ P6) hmay.O.1 hmay.O.2 hx5.O (by have:=hst'.O.size;have:=hb5.size;omega)).mono ?_
    rintro e w6 ⟨rfl,V6,hV6,hx6,NW⟩;have jqO:Step ksT wr w6:=(Step.of_below hb5).trans (NW.mono λk hk=>by
     rw[jq8];rcases hk with rfl|hk
     ·exact .inl rfl
     ·refine .inr ⟨kq / 3,?_,by rw[hV2.O]at hk;exact hk⟩
      have:=hx'.O.own.llen;rw[hV2.O]at this
      rw[this];exact hmay.O.2.ho)
    go_wp2_with fail;go_roundw
    case rel=>exact⟨q+1,V6,by omega,by go_num,by rw[hV6,hV2.O],by rw[zU.O];exact hx6,hst'.O.trans jqO⟩
    case measure=>simp[RowKit.intOf];omega
   ·obtain rfl:q=(kU s D).length:=by omega
    have kE:=ah (jfZ hc'.O hcs.O hmp.O h1'.O h2'.O);have fH:=hR.O _ h0r;obtain⟨b0,b1,b2,b3,b4,b5,b6⟩:=hx'.O.cells;have lG:=hx'.O.own.one;go_wp2_with (refine dB (.tmp 10) (.tmp 128) dH V' rfl fH rfl lG (λw9 dM je=>?_))
    have wC:=hx'.O.own.keptBy je fH (by decide) (by decide) (by decide) (by decide) (by decide) (by decide)
    have dN:=Below.gB hBr je;clear b0 b1 b2 b3 b4 b5 b6;go_wp2_with fail;exact jo results20 dM rfl rfl (EZ bK.O ((kE.O ▸ wC).from_ hle) dN)
 ·have hne:(aQ p s !=0)=true:=by simpa using hc
  have bK:=ah (Za (b:=b) (g:=g) (n:=n) hc);clear hc;have fH:=hR.O _ h1;go_wp2_with (refine dB (.tmp 10) (.tmp 22) dH dH rfl fH rfl rfl (λw9 dM je=>?_))
  have dN:=Below.gB hB1 je;go_wp2_with fail;exact jo results20 dM rfl rfl (jQ bK.O dN)
end Wh
namespace Wh
open Go Go.RowKit Go.Shelf Go.Proofs Tryz
def Ur(w:World)(aO:Nat)(v:Value)(x:yK):Prop:=∃vl,v=.agg #[.int .i64 x.dW,.int .i64 x.a,.int .i64 x.b,.int .i64 x.c,.int .i64 x.n,vl]/\Sl kP w aO vl x.aH
theorem Rf{w:World}{v:Value}{x:yK}(h:Ur w w.heap.size v x):∃Al cl,v=.agg #[.int .i64 x.dW,.int .i64 x.a,.int .i64 x.b,.int .i64 x.c,.int .i64 x.n,.slice Al x.aH.length cl]/\
  Hid (∀W,Below w.heap.size w W->Ur W W.heap.size (.agg #[.int .i64 x.dW,.int .i64 x.a,.int .i64 x.b,.int .i64 x.c,.int .i64 x.n,.slice Al x.aH.length cl]) x)/\
  Hid (∀W,Below w.heap.size w W->Sl kP W W.heap.size (.slice Al x.aH.length cl) x.aH)/\x.aH.length<=140737488355232:=by
 obtain⟨vl,rfl,hl⟩:=h;obtain⟨Al,cl,rfl,hll,hAl⟩:=hl;exact⟨Al,cl,rfl,ah (λW hW=>⟨_,rfl,Sl.up ⟨Al,cl,rfl,hll,hAl⟩ hW hW.size⟩),ah (λW hW=>Sl.up ⟨Al,cl,rfl,hll,hAl⟩ hW hW.size),hll⟩
end Wh
namespace Wh
open Go Go.RowKit Go.Shelf Go.Proofs Tryz
attribute [local go_sem] aT jW jm kC
theorem Zg(w:World)(p:dA)(s:aJ)(Ab:Option Addr)(cb:Nat)(As:Option Addr)(cs:Nat)(A0:Option Addr)(c0:Nat)(A1:Option Addr)(c1:Nat)(A2:Option Addr)(c2:Nat)(A3:Option Addr)(c3:Nat)(A4:Option Addr)(c4:Nat)(A5:Option Addr)(c5:Nat)(A6:Option Addr)(c6:Nat)(kd xa xb xc xn:Int)(Al:Option Addr)(ln cl:Nat):
  ∃W0:World,((w.alloc (.cells #[.slice Ab p.bQ.length cb,.slice As p.aP.length cs] 25)).alloc (.cells #[.slice A0 s.on.length c0,.slice A1 s.ak.length c1,.slice A2 s.aA.length c2,.slice A3 s.aF.length c3,.slice A4 s.gY.length c4,.slice A5 s.O.length c5,.slice A6 s.bg.length c6] 31)).alloc (.cells #[.int .i64 kd,.int .i64 xa,.int .i64 xb,.int .i64 xc,.int .i64 xn,.slice Al ln cl] 34)=W0/\Below w.heap.size w W0/\Hid (W0.heap.size=w.heap.size+1+1+1)/\
   Hid (∀W,Below W0.heap.size W0 W->(W.cell? ⟨w.heap.size,0,none⟩=some (.slice Ab p.bQ.length cb)/\W.cell? ⟨w.heap.size,1,none⟩=some (.slice As p.aP.length cs))/\W.cell? ⟨w.heap.size+1,0,none⟩=some (.slice A0 s.on.length c0)/\W.cell? ⟨w.heap.size+1,1,none⟩=some (.slice A1 s.ak.length c1)/\W.cell? ⟨w.heap.size+1,2,none⟩=some (.slice A2 s.aA.length c2)/\W.cell? ⟨w.heap.size+1,3,none⟩=some (.slice A3 s.aF.length c3)/\W.cell? ⟨w.heap.size+1,4,none⟩=some (.slice A4 s.gY.length c4)/\W.cell? ⟨w.heap.size+1,5,none⟩=some (.slice A5 s.O.length c5)/\W.cell? ⟨w.heap.size+1,6,none⟩=some (.slice A6 s.bg.length c6)/\w.heap.size+1<W.heap.size/\w.heap.size<W.heap.size)/\
   Hid (∀W,Below W0.heap.size W0 W->W.cell? ⟨w.heap.size+1+1,0,none⟩=some (.int .i64 kd)/\W.cell? ⟨w.heap.size+1+1,1,none⟩=some (.int .i64 xa)/\W.cell? ⟨w.heap.size+1+1,2,none⟩=some (.int .i64 xb)/\W.cell? ⟨w.heap.size+1+1,3,none⟩=some (.int .i64 xc)/\W.cell? ⟨w.heap.size+1+1,4,none⟩=some (.int .i64 xn)/\W.cell? ⟨w.heap.size+1+1,5,none⟩=some (.slice Al ln cl)/\w.heap.size+1+1<W.heap.size):=by
 obtain⟨W1,e1,b1,s1,s2,s3,hK⟩:=Eh w p s Ab cb As cs A0 c0 A1 c1 A2 c2 A3 c3 A4 c4 A5 c5 A6 c6;rw[e1];have e3:W1.heap.size=w.heap.size+1+1:=s3;have ha:Below W1.heap.size W1 (W1.alloc (.cells #[.int .i64 kd,.int .i64 xa,.int .i64 xb,.int .i64 xc,.int .i64 xn,.slice Al ln cl] 34)):=(aj _ _).alloc (au _) _;have h1:iV (W1.alloc (.cells #[.int .i64 kd,.int .i64 xa,.int .i64 xb,.int .i64 xc,.int .i64 xn,.slice Al ln cl] 34)) W1.heap.size 34 [.int .i64 kd,.int .i64 xa,.int .i64 xb,.int .i64 xc,.int .i64 xn,.slice Al ln cl]:=iV.new _ _ _;rw[e3]at h1
 refine⟨_,rfl,b1.trans (ha.mono b1.size),ah (by simp[e3]),ah λW hW=>uU hK W (ha.trans (hW.mono ha.size)),ah λW hW=>?_⟩
 have k:=h1.below hW (by simp;omega)
 exact⟨k.cell rfl,k.cell rfl,k.cell rfl,k.cell rfl,k.cell rfl,k.cell rfl,k.lt⟩
theorem yG(w:World)(p:dA)(s:aJ)(Ab:Option Addr)(cb:Nat)(As:Option Addr)(cs:Nat)(A0:Option Addr)(c0:Nat)(A1:Option Addr)(c1:Nat)(A2:Option Addr)(c2:Nat)(A3:Option Addr)(c3:Nat)(A4:Option Addr)(c4:Nat)(A5:Option Addr)(c5:Nat)(A6:Option Addr)(c6:Nat)(kd xa xb xc xn:Int)(Al:Option Addr)(ln cl:Nat):
  ∃W0:World,(((w.alloc (.cells #[.slice Ab p.bQ.length cb,.slice As p.aP.length cs] 25)).alloc (.cells #[.slice A0 s.on.length c0,.slice A1 s.ak.length c1,.slice A2 s.aA.length c2,.slice A3 s.aF.length c3,.slice A4 s.gY.length c4,.slice A5 s.O.length c5,.slice A6 s.bg.length c6] 31)).alloc (.cells #[.int .i64 kd,.int .i64 xa,.int .i64 xb,.int .i64 xc,.int .i64 xn,.slice Al ln cl] 34)).alloc (.cells #[.slice none 0 0,.slice none 0 0,.slice none 0 0,.slice none 0 0,.slice none 0 0,.slice none 0 0,.slice none 0 0] 31)=W0/\Below w.heap.size w W0/\Hid (W0.heap.size=w.heap.size+1+1+1+1)/\
   Hid (∀W,Below W0.heap.size W0 W->(W.cell? ⟨w.heap.size,0,none⟩=some (.slice Ab p.bQ.length cb)/\W.cell? ⟨w.heap.size,1,none⟩=some (.slice As p.aP.length cs))/\W.cell? ⟨w.heap.size+1,0,none⟩=some (.slice A0 s.on.length c0)/\W.cell? ⟨w.heap.size+1,1,none⟩=some (.slice A1 s.ak.length c1)/\W.cell? ⟨w.heap.size+1,2,none⟩=some (.slice A2 s.aA.length c2)/\W.cell? ⟨w.heap.size+1,3,none⟩=some (.slice A3 s.aF.length c3)/\W.cell? ⟨w.heap.size+1,4,none⟩=some (.slice A4 s.gY.length c4)/\W.cell? ⟨w.heap.size+1,5,none⟩=some (.slice A5 s.O.length c5)/\W.cell? ⟨w.heap.size+1,6,none⟩=some (.slice A6 s.bg.length c6)/\w.heap.size+1<W.heap.size/\w.heap.size<W.heap.size)/\
   Hid (∀W,Below W0.heap.size W0 W->W.cell? ⟨w.heap.size+1+1,0,none⟩=some (.int .i64 kd)/\W.cell? ⟨w.heap.size+1+1,1,none⟩=some (.int .i64 xa)/\W.cell? ⟨w.heap.size+1+1,2,none⟩=some (.int .i64 xb)/\W.cell? ⟨w.heap.size+1+1,3,none⟩=some (.int .i64 xc)/\W.cell? ⟨w.heap.size+1+1,4,none⟩=some (.int .i64 xn)/\W.cell? ⟨w.heap.size+1+1,5,none⟩=some (.slice Al ln cl)/\w.heap.size+1+1<W.heap.size)/\Hid (∀W,Below W0.heap.size W0 W->jk W (w.heap.size+1+1+1) dH):=by
 obtain⟨W1,e1,b1,s3,hK,hD⟩:=Zg w p s Ab cb As cs A0 c0 A1 c1 A2 c2 A3 c3 A4 c4 A5 c5 A6 c6 kd xa xb xc xn Al ln cl;rw[e1];have e3:W1.heap.size=w.heap.size+1+1+1:=s3;have ha:Below W1.heap.size W1 (W1.alloc (.cells #[.slice none 0 0,.slice none 0 0,.slice none 0 0,.slice none 0 0,.slice none 0 0,.slice none 0 0,.slice none 0 0] 31)):=(aj _ _).alloc (au _) _;have h1:iV (W1.alloc (.cells #[.slice none 0 0,.slice none 0 0,.slice none 0 0,.slice none 0 0,.slice none 0 0,.slice none 0 0,.slice none 0 0] 31)) W1.heap.size 31 [.slice none 0 0,.slice none 0 0,.slice none 0 0,.slice none 0 0,.slice none 0 0,.slice none 0 0,.slice none 0 0]:=iV.new _ _ _;rw[e3]at h1
 exact⟨_,rfl,b1.trans (ha.mono b1.size),ah (by simp[e3]),ah λW hW=>uU hK W (ha.trans (hW.mono ha.size)),ah λW hW=>uU hD W (ha.trans (hW.mono ha.size)),ah λW hW=>h1.below hW (by simp;omega)⟩
theorem jm2(w:World)(v vs vd:Value)(p:dA)(s:aJ)(x:yK)(hp:mW w w.heap.size v p)(hv:lK w w.heap.size vs s)(hd:Ur w w.heap.size vd x):
  Calls prog 17 #[v,vs,vd] w (nN (act p s x) w):=by
 obtain⟨Ab,cb,As,cs,rfl,hP',hBn,hSz,hlb,hls⟩:=sN hp;obtain⟨A0,c0,A1,c1,A2,c2,A3,c3,A4,c4,A5,c5,A6,c6,rfl,hV,hN,hO,hH,hM,hI,hU,hX,hl0,hl1,hl2,hl3,hl4,hl5,JA⟩:=oW hv;obtain⟨Al,cl,rfl,hDV,hLn,hll⟩:=Rf hd;obtain⟨kd,xa,xb,xc,xn,l⟩:=x;simp only at hDV hLn hll ⊢
 clear hd hp hv;by_cases k1:kd=1
 ·rw[show act p s ⟨kd,xa,xb,xc,xn,l⟩=rF p s xa xb xn by rw[k1];rfl]
  have q1:(kd==1)=true:=by simpa using k1
  clear k1;go_enter func17,ntmps17
  go_wp2_with fail;obtain⟨W0,hW0,hb0,hsE,hK,hD,hR⟩:=yG w p s Ab cb As cs A0 c0 A1 c1 A2 c2 A3 c3 A4 c4 A5 c5 A6 c6 kd xa xb xc xn Al l.length cl;rw[hW0];clear hW0;refine(ja9 _ _ _ p s xa xb xn (hP'.O _ hb0) (hV.O _ hb0)).mono ?_
  rintro e W1 ⟨V1,rfl,ho1,hb1⟩;have fH:=hR.O _ hb1;have lG:=dK.one ho1;go_wp2_with (refine dB (.tmp 6) (.tmp 21) dH V1 rfl fH rfl lG (λw9 dM je=>?_))
  have wC:=dK.keptBy ho1 je fH (by decide) (by decide) (by decide) (by decide) (by decide) (by decide)
  have hB1:=hb0.trans (hb1.mono hb0.size);have hle:=hb0.size;have dN:=Below.gB hB1 je;go_wp2_with fail;exact jo results17 dM rfl rfl (show nN (rF p s xa xb xn) w _ w9 from⟨V1,rfl,wC.from_ hle,dN⟩)
 have q1:(kd==1)=false:=by simpa using k1
 by_cases k2:kd=2
 ·rw[show act p s ⟨kd,xa,xb,xc,xn,l⟩=enter p s l by rw[k2];rfl]
  have q2:(kd==2)=true:=by simpa using k2
  clear k1 k2;go_enter func17,ntmps17
  go_wp2_with fail;obtain⟨W0,hW0,hb0,hsE,hK,hD,hR⟩:=yG w p s Ab cb As cs A0 c0 A1 c1 A2 c2 A3 c3 A4 c4 A5 c5 A6 c6 kd xa xb xc xn Al l.length cl;rw[hW0];clear hW0;refine(jfM _ _ _ _ p s l (hP'.O _ hb0) (hV.O _ hb0) (hLn.O _ hb0)).mono ?_
  rintro e W1 ⟨V1,rfl,ho1,hb1⟩;have fH:=hR.O _ hb1;have lG:=dK.one ho1;go_wp2_with (refine dB (.tmp 6) (.tmp 30) dH V1 rfl fH rfl lG (λw9 dM je=>?_))
  have wC:=dK.keptBy ho1 je fH (by decide) (by decide) (by decide) (by decide) (by decide) (by decide)
  have hB1:=hb0.trans (hb1.mono hb0.size);have hle:=hb0.size;have dN:=Below.gB hB1 je;go_wp2_with fail;exact jo results17 dM rfl rfl (show nN (enter p s l) w _ w9 from⟨V1,rfl,wC.from_ hle,dN⟩)
 have q2:(kd==2)=false:=by simpa using k2
 by_cases k3:kd=3
 ·rw[show act p s ⟨kd,xa,xb,xc,xn,l⟩=zq p s by rw[k3];rfl]
  have q3:(kd==3)=true:=by simpa using k3
  clear k1 k2 k3;go_enter func17,ntmps17
  go_wp2_with fail;obtain⟨W0,hW0,hb0,hsE,hK,hD,hR⟩:=yG w p s Ab cb As cs A0 c0 A1 c1 A2 c2 A3 c3 A4 c4 A5 c5 A6 c6 kd xa xb xc xn Al l.length cl;rw[hW0];clear hW0;refine(jfz _ _ _ p s (hP'.O _ hb0) (hV.O _ hb0)).mono ?_
  rintro e W1 ⟨V1,rfl,ho1,hb1⟩;have fH:=hR.O _ hb1;have lG:=dK.one ho1;go_wp2_with (refine dB (.tmp 6) (.tmp 37) dH V1 rfl fH rfl lG (λw9 dM je=>?_))
  have wC:=dK.keptBy ho1 je fH (by decide) (by decide) (by decide) (by decide) (by decide) (by decide)
  have hB1:=hb0.trans (hb1.mono hb0.size);have hle:=hb0.size;have dN:=Below.gB hB1 je;go_wp2_with fail;exact jo results17 dM rfl rfl (show nN (zq p s) w _ w9 from⟨V1,rfl,wC.from_ hle,dN⟩)
 have q3:(kd==3)=false:=by simpa using k3
 by_cases k4:kd=4
 ·rw[show act p s ⟨kd,xa,xb,xc,xn,l⟩=zJ p s xa by rw[k4];rfl]
  have q4:(kd==4)=true:=by simpa using k4
  clear k1 k2 k3 k4;go_enter func17,ntmps17
  go_wp2_with fail;obtain⟨W0,hW0,hb0,hsE,hK,hD,hR⟩:=yG w p s Ab cb As cs A0 c0 A1 c1 A2 c2 A3 c3 A4 c4 A5 c5 A6 c6 kd xa xb xc xn Al l.length cl;rw[hW0];clear hW0;refine(jgO _ _ _ p s xa (hP'.O _ hb0) (hV.O _ hb0)).mono ?_
  rintro e W1 ⟨V1,rfl,ho1,hb1⟩;have fH:=hR.O _ hb1;have lG:=dK.one ho1;go_wp2_with (refine dB (.tmp 6) (.tmp 46) dH V1 rfl fH rfl lG (λw9 dM je=>?_))
  have wC:=dK.keptBy ho1 je fH (by decide) (by decide) (by decide) (by decide) (by decide) (by decide)
  have hB1:=hb0.trans (hb1.mono hb0.size);have hle:=hb0.size;have dN:=Below.gB hB1 je;go_wp2_with fail;exact jo results17 dM rfl rfl (show nN (zJ p s xa) w _ w9 from⟨V1,rfl,wC.from_ hle,dN⟩)
 have q4:(kd==4)=false:=by simpa using k4
 by_cases k5:kd=5
 ·rw[show act p s ⟨kd,xa,xb,xc,xn,l⟩=pick p s xa xb xc xn by rw[k5];rfl]
  have q5:(kd==5)=true:=by simpa using k5
  clear k1 k2 k3 k4 k5;go_enter func17,ntmps17
  go_wp2_with fail;obtain⟨W0,hW0,hb0,hsE,hK,hD,hR⟩:=yG w p s Ab cb As cs A0 c0 A1 c1 A2 c2 A3 c3 A4 c4 A5 c5 A6 c6 kd xa xb xc xn Al l.length cl;rw[hW0];clear hW0;refine(jmQ _ _ _ p s xa xb xc xn (hP'.O _ hb0) (hV.O _ hb0)).mono ?_
  rintro e W1 ⟨V1,rfl,ho1,hb1⟩;have fH:=hR.O _ hb1;have lG:=dK.one ho1;go_wp2_with (refine dB (.tmp 6) (.tmp 61) dH V1 rfl fH rfl lG (λw9 dM je=>?_))
  have wC:=dK.keptBy ho1 je fH (by decide) (by decide) (by decide) (by decide) (by decide) (by decide)
  have hB1:=hb0.trans (hb1.mono hb0.size);have hle:=hb0.size;have dN:=Below.gB hB1 je;go_wp2_with fail;exact jo results17 dM rfl rfl (show nN (pick p s xa xb xc xn) w _ w9 from⟨V1,rfl,wC.from_ hle,dN⟩)
 have q5:(kd==5)=false:=by simpa using k5
 by_cases k6:kd=6
 ·rw[show act p s ⟨kd,xa,xb,xc,xn,l⟩=fill p s by rw[k6];rfl]
  have q6:(kd==6)=true:=by simpa using k6
  clear k1 k2 k3 k4 k5 k6;go_enter func17,ntmps17
  go_wp2_with fail;obtain⟨W0,hW0,hb0,hsE,hK,hD,hR⟩:=yG w p s Ab cb As cs A0 c0 A1 c1 A2 c2 A3 c3 A4 c4 A5 c5 A6 c6 kd xa xb xc xn Al l.length cl;rw[hW0];clear hW0;refine(jon _ _ _ p s (hP'.O _ hb0) (hV.O _ hb0)).mono ?_
  rintro e W1 ⟨V1,rfl,ho1,hb1⟩;have fH:=hR.O _ hb1;have lG:=dK.one ho1;go_wp2_with (refine dB (.tmp 6) (.tmp 68) dH V1 rfl fH rfl lG (λw9 dM je=>?_))
  have wC:=dK.keptBy ho1 je fH (by decide) (by decide) (by decide) (by decide) (by decide) (by decide)
  have hB1:=hb0.trans (hb1.mono hb0.size);have hle:=hb0.size;have dN:=Below.gB hB1 je;go_wp2_with fail;exact jo results17 dM rfl rfl (show nN (fill p s) w _ w9 from⟨V1,rfl,wC.from_ hle,dN⟩)
 have q6:(kd==6)=false:=by simpa using k6
 by_cases k7:kd=7
 ·rw[show act p s ⟨kd,xa,xb,xc,xn,l⟩=CW p s xa xn by rw[k7];rfl]
  have q7:(kd==7)=true:=by simpa using k7
  clear k1 k2 k3 k4 k5 k6 k7;go_enter func17,ntmps17
  go_wp2_with fail;obtain⟨W0,hW0,hb0,hsE,hK,hD,hR⟩:=yG w p s Ab cb As cs A0 c0 A1 c1 A2 c2 A3 c3 A4 c4 A5 c5 A6 c6 kd xa xb xc xn Al l.length cl;rw[hW0];clear hW0;refine(jlo _ _ _ p s xa xn (hP'.O _ hb0) (hV.O _ hb0)).mono ?_
  rintro e W1 ⟨V1,rfl,ho1,hb1⟩;have fH:=hR.O _ hb1;have lG:=dK.one ho1;go_wp2_with (refine dB (.tmp 6) (.tmp 79) dH V1 rfl fH rfl lG (λw9 dM je=>?_))
  have wC:=dK.keptBy ho1 je fH (by decide) (by decide) (by decide) (by decide) (by decide) (by decide)
  have hB1:=hb0.trans (hb1.mono hb0.size);have hle:=hb0.size;have dN:=Below.gB hB1 je;go_wp2_with fail;exact jo results17 dM rfl rfl (show nN (CW p s xa xn) w _ w9 from⟨V1,rfl,wC.from_ hle,dN⟩)
 have q7:(kd==7)=false:=by simpa using k7
 by_cases k8:kd=8
 ·rw[show act p s ⟨kd,xa,xb,xc,xn,l⟩=count p s xa xb xn by rw[k8];rfl]
  have q8:(kd==8)=true:=by simpa using k8
  clear k1 k2 k3 k4 k5 k6 k7 k8;go_enter func17,ntmps17
  go_wp2_with fail;obtain⟨W0,hW0,hb0,hsE,hK,hD,hR⟩:=yG w p s Ab cb As cs A0 c0 A1 c1 A2 c2 A3 c3 A4 c4 A5 c5 A6 c6 kd xa xb xc xn Al l.length cl;rw[hW0];clear hW0;refine(jlB _ _ _ p s xa xb xn (hP'.O _ hb0) (hV.O _ hb0)).mono ?_
  rintro e W1 ⟨V1,rfl,ho1,hb1⟩;have fH:=hR.O _ hb1;have lG:=dK.one ho1;go_wp2_with (refine dB (.tmp 6) (.tmp 92) dH V1 rfl fH rfl lG (λw9 dM je=>?_))
  have wC:=dK.keptBy ho1 je fH (by decide) (by decide) (by decide) (by decide) (by decide) (by decide)
  have hB1:=hb0.trans (hb1.mono hb0.size);have hle:=hb0.size;have dN:=Below.gB hB1 je;go_wp2_with fail;exact jo results17 dM rfl rfl (show nN (count p s xa xb xn) w _ w9 from⟨V1,rfl,wC.from_ hle,dN⟩)
 have q8:(kd==8)=false:=by simpa using k8
 ·rw[show act p s ⟨kd,xa,xb,xc,xn,l⟩=(jD,8)by unfold act;simp only[k1,k2,k3,k4,k5,k6,k7,k8,uH]]
  clear k1 k2 k3 k4 k5 k6 k7 k8;obtain⟨W0,hW0,hb0,hsE,hK,hD,hR⟩:=yG w p s Ab cb As cs A0 c0 A1 c1 A2 c2 A3 c3 A4 c4 A5 c5 A6 c6 kd xa xb xc xn Al l.length cl;subst hW0;have fH:=hR.O _ (aj _ _);go_enter func17,ntmps17
  go_wp2_with (refine dB (.tmp 6) (.tmp 94) dH dH rfl fH rfl rfl (λw9 dM je=>?_))
  have hle:=hb0.size;have dN:=Below.gB hb0 je;go_wp2_with fail;exact jo results17 dM rfl rfl (jQ rfl dN)
end Wh
