/- Texts of the claim, joined. -/
import Derived.Test.YtniaecolikhmeaaGreatDoorQ39
import Derived.Test.YtniaecolikhmeaaGreatDoorQ38
set_option maxHeartbeats 20000000
set_option maxRecDepth 100000
set_option linter.all false
namespace Wh
open Go Go.RowKit Go.Shelf Go.Proofs Tryz
section
attribute [local go_sem] aV jF iY jI
def GX(r:Option (List Int×Int))(w:World)(e:Ending)(w':World):Prop:=
 Below w w w'/\((r=none/\e=.panicked (Sm 1))\/(∃o c,r=some (o,c)/\c≠0/\e=.panicked (Sm c))\/(∃o v',r=some (o,0)/\e=.returned v'/\Sl iW w' w' v' o))
def GV(w:World)(tb:Nat)(pb ps:Value)(V:SV):Prop:=iJ w tb 42 ([pb,ps]++V.cells)
theorem VE{w:World}{tb:Nat}{pb ps:Value}{V:SV}{s:aI}(ht:GV w tb pb ps V)(hv:kG w w V.val s):∃A0 c0 A1 c1 A2 c2 A3 c3,Hid (∀W,Below w w W->W.cell? ⟨tb,2,none⟩=some (.slice A0 s.on.length c0)/\W.cell? ⟨tb,3,none⟩=some (.slice A1 s.ak.length c1)/\W.cell? ⟨tb,4,none⟩=some (.slice A2 s.aA.length c2)/\W.cell? ⟨tb,5,none⟩=some (.slice A3 s.aF.length c3)/\tb<W.heap.size)/\
  Hid (∀W,Below w w W->KJ iW W W.heap.size (.slice A0 s.on.length c0) s.on)/\Hid (∀W,Below w w W->oW W W.heap.size (.slice A1 s.ak.length c1) s.ak)/\Hid (∀W,Below w w W->Sl iD W W.heap.size (.slice A2 s.aA.length c2) s.aA)/\Hid (∀W,Below w w W->Sl oC W W.heap.size (.slice A3 s.aF.length c3) s.aF):=by
 obtain⟨vs,hvs⟩:∃vs,V.val=vs:=⟨_,rfl⟩;rw[hvs]at hv
 obtain⟨A0,c0,A1,c1,A2,c2,A3,c3,A4,c4,A5,c5,A6,c6,rfl,hV,hN,hO,hH,hM,hI,hU,hX,_⟩:=lY hv;unfold SV.val at hvs
 simp only[Value.agg.injEq,Array.mk.injEq,List.cons.injEq,ni]at hvs
 obtain⟨e0,e1,e2,e3,e4,e5,e6⟩:=hvs;unfold GV SV.cells at ht
 rw[e0,e1,e2,e3]at ht
 exact⟨A0,c0,A1,c1,A2,c2,A3,c3,ah λW hW=>have h:=ht.below hW ht.lt;⟨h.cell rfl,h.cell rfl,h.cell rfl,h.cell rfl,h.lt⟩,hN,hO,hH,hM⟩
theorem jfq(w:World)(vt vl:Value)(op:List Nat)(l:List Int)(hop:∀x∈op,x<256)(hl:Sl iW w w vl l)
  (hno:(op=sD/\l.length≠1)\/(op=sF/\l.length≠1)\/(op=uJ/\l.length≠0)\/(op=uI/\l.length≠0)\/(op=CO/\l.length≠0)\/(op≠sD/\op≠sF/\op≠uJ/\op≠uI/\op≠CO)):
  Calls prog 40 #[vt,.string (eY op),vl] w (GX none w):=by
 have key:=jiK hop hno;obtain⟨A,c,rfl⟩:=hl.isSlice;clear hl hop hno;have key':∃b1 b0:Bool,((l.length:Int)==1)=b1/\((l.length:Int)==0)=b0/\(((eY op).toList=[115,104,101,108,102]/\b1=false)\/((eY op).toList=[111,114,100,101,114]/\b1=false)\/((eY op).toList=[104,111,108,100,115]/\b0=false)\/((eY op).toList=[109,111,118,101,115]/\b0=false)\/((eY op).toList=[111,112,101,110]/\b0=false)\/
   (¬(eY op).toList=[115,104,101,108,102]/\¬(eY op).toList=[111,114,100,101,114]/\¬(eY op).toList=[104,111,108,100,115]/\¬(eY op).toList=[109,111,118,101,115]/\¬(eY op).toList=[111,112,101,110])):=by
  refine⟨_,_,rfl,rfl,?_⟩
  simp only[kL,ne_eq];exact key
 clear key;obtain⟨b1,b0,q1,q0,key⟩:=key';rcases key with⟨d,rfl⟩|⟨d,rfl⟩|⟨d,rfl⟩|⟨d,rfl⟩|⟨d,rfl⟩|⟨f1,f2,f3,f4,f5⟩
 all_goals
  go_enter func40,ntmps40
  go_wp2_with (go_at_call 39;refine(Gx _ _).mono ?_;rintro e w' ⟨rfl,rfl⟩)
  exact⟨rfl,aj _ _,.inl ⟨rfl,rfl⟩⟩
theorem first_pos{l:List Int}(h:∀n∈l,0<=n)(hl:0<l.length):0<=aZ l 0:=by
 cases l with
 |nil=>simp at hl
 |cons a r=>exact h a (bW ..)
theorem jdu(w:World)(tb:Nat)(pb ps:Value)(V:SV)(vl:Value)(p:dG)(s:aI)(op:List Nat)(l:List Int)(e1:op=sD)(ht:GV w tb pb ps V)(hv:kG w w V.val s)(hl:Sl iW w w vl l)(h0:∀n∈l,0<=n)(h1:l.length=1)(hsz:aO p s=0):
  Calls prog 40 #[.pointer (some tb),.string (eY op),vl] w (GX (nD p s op l) w):=by
 have d1:(eY op).toList=[115,104,101,108,102]:=by rw[e1];exact tN _
 have hop':=ah e1;obtain⟨A,c,rfl⟩:=hl.isSlice;have hA:=ah hl.at_;have q1:((l.length:Int)==1)=true:=by rw[h1];rfl
 have hlp:0<l.length:=by omega
 obtain⟨A0,c0,A1,c1,A2,c2,A3,c3,hT,hN,hO,hH,hM⟩:=VE ht hv;obtain⟨ok0,lA,z0⟩:=hA.O.int (i:=0) (by omega)
 rw[fZ]at z0
 obtain⟨b,hbb⟩:∃b:Nat,aZ l 0=(b:Int):=⟨(aZ l 0).toNat,by have:=first_pos h0 hlp;omega⟩
 have hon:=(gB.1 hsz).1.sO;have hsm:s.on.length<=6:=by obtain⟨_,hc6,_,_⟩:=(gB.1 hsz).1.counts;omega
 have hres:=ah (show nD p s op l=if b<s.on.length then some (fO s.on b,0)else some ([],4)by
  rw[hop'.O];unfold nD;have e:l.getD 0 0=(b:Int):=hbb;rw[aB ⟨rfl,h1⟩,e];by_cases hlt:b<s.on.length
  ·rw[aB hlt,aB (by omega)]
   rfl
  ·rw[au hlt,au (by omega)])
 rw[hbb]at z0
 clear e1 hl ht hv hsz hbb h0 hon h1;by_cases hlt:b<s.on.length
 ·have hli:(b:Int)<(s.on.length:Int):=by omega
  have hres2:nD p s op l=some (fO s.on b,0):=by rw[hres.O,aB hlt]
  have Xv:=ah hres2;clear hres hres2;go_enter func40,ntmps40
  go_wp2_with fail;refine IX 10 [rV 32 (.slice A l.length c),rV 33 (.pointer (some ⟨iH A,l9 A,none⟩)),rV 34 ((b:Int)),rV 35 (.pointer (some tb)),rV 36 (.pointer (some tb)),rV 37 (.pointer (some ⟨tb,2,none⟩)),rV 38 (.pointer (some ⟨tb,2,none⟩)),rV 39 (.slice A0 s.on.length c0),rV 40 (s.on.length),rV 41 (.bool true)] ?_ (λf W1 hb1 hR=>?_)
  simp only[aG,aS];refine bT.v (λgq w' hb ho hd=>?_) ?_
  ·have e2:=ho 2 rfl;go_simp
  refine bT.v (λgq w' hb ho hd=>?_) ?_
  ·have e32:_=_:=hd.d 0;go_simp
  refine bT.v (λgq w' hb ho hd=>?_) ?_
  ·have e33:_=_:=hd.d 1;have y:=(hb.cell (p:=⟨iH A,l9 A,none⟩) lA).trans z0;go_simp
  refine bT.v (λgq w' hb ho hd=>?_) ?_
  ·have e0:=ho 0 rfl;go_simp
  refine bT.v (λgq w' hb ho hd=>?_) ?_
  ·have e35:_=_:=hd.d 3;go_simp
  refine bT.v (λgq w' hb ho hd=>?_) ?_
  ·have e36:_=_:=hd.d 4;go_simp
  refine bT.v (λgq w' hb ho hd=>?_) ?_
  ·have e37:_=_:=hd.d 5;go_simp
  refine bT.v (λgq w' hb ho hd=>?_) ?_
  ·have e38:_=_:=hd.d 6;have y:=(hT.O w' hb).1;go_simp
  refine bT.v (λgq w' hb ho hd=>?_) ?_
  ·have e39:_=_:=hd.d 7;go_simp
  refine bT.v (λgq w' hb ho hd=>?_) ?_
  ·have e34:_=_:=hd.d 2;have e40:_=_:=hd.d 8;go_simp
  exact bT.nil;simp only[Jh]at hR
  simp only[kP,qJ,aG,aS,bU,dH,bY,cO,dA,dL,aQ,bG,bH,hR];clear hR;have z1:=(hb1.cell (p:=⟨iH A,l9 A,none⟩) lA).trans z0;obtain⟨x0,x1,x2,x3,ltb⟩:=hT.O W1 hb1;obtain⟨Ar,cr,okr,lr,rr,hsr⟩:=(hN.O W1 hb1).row hlt;have lA1:=aJ lA hb1.size;go_wp2_with (go_at_call 39;refine(Tq _ _).mono ?_;rintro e w' ⟨rfl,rfl⟩)
  go_quiet (fail)
  go_wp2_with fail;have hdn:=below_drewN (aj W1 W1) nq;exact bV (v:=.slice Ar (fO s.on b).length cr) (by simp[results,results40,go_sem]) rfl ⟨below_drewN hb1 _,.inr (.inr ⟨_,_,Xv.O,rfl,hsr.up hdn hdn.size⟩)⟩
 ·have hli:¬(b:Int)<(s.on.length:Int):=by omega
  have hres2:nD p s op l=some ([],4):=by rw[hres.O,au hlt]
  have Xv:=ah hres2;clear hres hres2;go_enter func40,ntmps40
  go_wp2_with fail;refine IX 10 [rV 32 (.slice A l.length c),rV 33 (.pointer (some ⟨iH A,l9 A,none⟩)),rV 34 ((b:Int)),rV 35 (.pointer (some tb)),rV 36 (.pointer (some tb)),rV 37 (.pointer (some ⟨tb,2,none⟩)),rV 38 (.pointer (some ⟨tb,2,none⟩)),rV 39 (.slice A0 s.on.length c0),rV 40 (s.on.length),rV 41 (.bool false)] ?_ (λf W1 hb1 hR=>?_)
  simp only[aG,aS];refine bT.v (λgq w' hb ho hd=>?_) ?_
  ·have e2:=ho 2 rfl;go_simp
  refine bT.v (λgq w' hb ho hd=>?_) ?_
  ·have e32:_=_:=hd.d 0;go_simp
  refine bT.v (λgq w' hb ho hd=>?_) ?_
  ·have e33:_=_:=hd.d 1;have y:=(hb.cell (p:=⟨iH A,l9 A,none⟩) lA).trans z0;go_simp
  refine bT.v (λgq w' hb ho hd=>?_) ?_
  ·have e0:=ho 0 rfl;go_simp
  refine bT.v (λgq w' hb ho hd=>?_) ?_
  ·have e35:_=_:=hd.d 3;go_simp
  refine bT.v (λgq w' hb ho hd=>?_) ?_
  ·have e36:_=_:=hd.d 4;go_simp
  refine bT.v (λgq w' hb ho hd=>?_) ?_
  ·have e37:_=_:=hd.d 5;go_simp
  refine bT.v (λgq w' hb ho hd=>?_) ?_
  ·have e38:_=_:=hd.d 6;have y:=(hT.O w' hb).1;go_simp
  refine bT.v (λgq w' hb ho hd=>?_) ?_
  ·have e39:_=_:=hd.d 7;go_simp
  refine bT.v (λgq w' hb ho hd=>?_) ?_
  ·have e34:_=_:=hd.d 2;have e40:_=_:=hd.d 8;go_simp
  exact bT.nil;simp only[Jh]at hR
  simp only[kP,qJ,aG,aS,bU,dH,bY,cO,dA,dL,aQ,bG,bH,hR];clear hR;go_wp2_with (go_at_call 39;refine(Gx _ _).mono ?_;rintro e w' ⟨rfl,rfl⟩)
  exact⟨rfl,hb1,.inr (.inl ⟨_,_,Xv.O,by decide,rfl⟩)⟩
theorem jdx(w:World)(tb:Nat)(pb ps:Value)(V:SV)(vl:Value)(p:dG)(s:aI)(op:List Nat)(l:List Int)(e1:op=uJ)(ht:GV w tb pb ps V)(hv:kG w w V.val s)(hl:Sl iW w w vl l)(h0:l.length=0)(hsz:aO p s=0):
  Calls prog 40 #[.pointer (some tb),.string (eY op),vl] w (GX (nD p s op l) w):=by
 have d1:(eY op).toList=[104,111,108,100,115]:=by rw[e1];exact tN _
 have q0:((l.length:Int)==0)=true:=by rw[h0];rfl
 have hres:=ah (show nD p s op l=some (s.aA.flatMap (λx=>[x.aC,x.aK,x.bin,x.n]),0)by
  rw[e1];unfold nD;simp[h0,sD,sF,uJ,uI])
 obtain⟨A,c,rfl⟩:=hl.isSlice;obtain⟨A0,c0,A1,c1,A2,c2,A3,c3,hT,hN,hO,hH,hM⟩:=VE ht hv;obtain⟨x0,x1,x2,x3,ltb⟩:=hT.O w (aj _ _);have hn:=qH (gB.1 hsz).1.aA;clear e1 hl h0 hsz ht hv hT;go_enter func40,ntmps40
 go_wp2_with fail;go_loopw[9,114] (λv i wr=>∃k:Nat,k<=s.aA.length/\i=.int .i64 (k:Nat)/\Own iW 1 3 wr w.heap.size v ((s.aA.take k).flatMap (λx=>[x.aC,x.aK,x.bin,x.n]))/\Below w.heap.size w wr) (λ_ i _=>s.aA.length - (RowKit.intOf i).toNat)
 case atStart=>exact⟨0,aN _,rfl,Own.nil,aj _ _⟩
 case round=>
  obtain⟨k,hk,rfl,ho,hBr⟩:=hrel;obtain⟨Ao,co,TM⟩:=ho.isSlice;have hlk:((s.aA.take k).flatMap (λx=>[x.aC,x.aK,x.bin,x.n])).length=k*4:=by rw[A8 (n:=4) _ (λ_=>rfl),bC];congr 1;omega
  subst TM;rw[hlk]at ho ⊢
  have ho':=ah ho;clear ho x0 x1 x2 x3;by_cases hlt:k<s.aA.length
  ·have hki:(k:Int)<(s.aA.length:Int):=by omega
   obtain⟨okh,lh,e0,e1,e2,e3⟩:=(hH.O wr hBr).at_.hold hlt;have hlt':=ah (JG (λx:eX=>[x.aC,x.aK,x.bin,x.n]) s.aA Pn hlt)
   have hbs:=hBr.size;go_wp2_with (at_builtin;refine bD ?_)
   unfold Hid;have Yt:=((Own.lit (enc:=iW) (size:=1) (aT:=wr.heap.size) (wr.alloc (nC (hold s.aA k))) 3 (Vh (hold s.aA k)) [(hold s.aA k).aC,(hold s.aA k).aK,(hold s.aA k).bin,(hold s.aA k).n] (by simp) (by simp) (λ_=>rfl) rfl).sl (by simp)).at_
   simp only[dK]at Yt
   have O4:=ah Yt;clear Yt;refine(yH _ rfl (.tmp 118) (.tmp 127) 23 3 rfl w.heap.size _ 1 8 underlying23 zS rfl (by decide) (by decide) _ _ [(hold s.aA k).aC,(hold s.aA k).aK,(hold s.aA k).bin,(hold s.aA k).n] rfl ((ho'.O.alloc _).alloc _) (some ⟨wr.heap.size+1,0,none⟩) 4 _ rfl (λ_=>rfl) O4.O (λy=>Dv y) (by rw[hlk];simp;omega) (by simp only[dK];omega) (λv9 w9 C9 jg Oe AA=>?_))
   have Bj:=ah (((hBr.alloc hBr.size _).alloc (by simp only[dK];omega) _).trans AA)
   have Gs:=ah C9;clear C9 jg Oe AA ho' O4 e0 e1 e2 e3;go_wp2_with fail;go_roundw
   case rel=>exact⟨k+1,by omega,by go_num,by rw[hlt'.O];exact Gs.O,Bj.O⟩
   case measure=>simp[dY];omega
  ·obtain rfl:k=s.aA.length:=by omega
   rw[dR]at ho'
   go_wp2_with fail;exact bV (v:=.slice Ao (s.aA.length*4) co) (by simp[results,results40,go_sem]) rfl ⟨hBr,.inr (.inr ⟨_,_,hres.O,rfl,(ho'.O.sl (by rw[A8 (n:=4) _ (λ_=>rfl)];omega))⟩)⟩
theorem jdw(w:World)(tb:Nat)(pb ps:Value)(V:SV)(vl:Value)(p:dG)(s:aI)(op:List Nat)(l:List Int)(e1:op=uI)(ht:GV w tb pb ps V)(hv:kG w w V.val s)(hl:Sl iW w w vl l)(h0:l.length=0)(hsz:aO p s=0):
  Calls prog 40 #[.pointer (some tb),.string (eY op),vl] w (GX (nD p s op l) w):=by
 have d1:(eY op).toList=[109,111,118,101,115]:=by rw[e1];exact tN _
 have q0:((l.length:Int)==0)=true:=by rw[h0];rfl
 have hres:=ah (show nD p s op l=some (s.aF.flatMap (λx=>[x.dW,x.src,x.dst,x.n]),0)by
  rw[e1];unfold nD;simp[h0,sD,sF,uJ,uI])
 obtain⟨A,c,rfl⟩:=hl.isSlice;obtain⟨A0,c0,A1,c1,A2,c2,A3,c3,hT,hN,hO,hH,hM⟩:=VE ht hv;obtain⟨x0,x1,x2,x3,ltb⟩:=hT.O w (aj _ _);have hn:=(gB.1 hsz).1.uf;clear e1 hl h0 hsz ht hv hT;go_enter func40,ntmps40
 go_wp2_with fail;go_loopw[9,142] (λv i wr=>∃k:Nat,k<=s.aF.length/\i=.int .i64 (k:Nat)/\Own iW 1 3 wr w.heap.size v ((s.aF.take k).flatMap (λx=>[x.dW,x.src,x.dst,x.n]))/\Below w.heap.size w wr) (λ_ i _=>s.aF.length - (RowKit.intOf i).toNat)
 case atStart=>exact⟨0,aN _,rfl,Own.nil,aj _ _⟩
 case round=>
  obtain⟨k,hk,rfl,ho,hBr⟩:=hrel;obtain⟨Ao,co,TM⟩:=ho.isSlice;have hlk:((s.aF.take k).flatMap (λx=>[x.dW,x.src,x.dst,x.n])).length=k*4:=by rw[A8 (n:=4) _ (λ_=>rfl),bC];congr 1;omega
  subst TM;rw[hlk]at ho ⊢
  have ho':=ah ho;clear ho x0 x1 x2 x3;by_cases hlt:k<s.aF.length
  ·have hki:(k:Int)<(s.aF.length:Int):=by omega
   obtain⟨okh,lh,e0,e1,e2,e3⟩:=(hM.O wr hBr).at_.move hlt;have hlt':=ah (JG (λx:Move=>[x.dW,x.src,x.dst,x.n]) s.aF Kv hlt)
   have hbs:=hBr.size;go_wp2_with (at_builtin;refine bD ?_)
   unfold Hid;have Yt:=((Own.lit (enc:=iW) (size:=1) (aT:=wr.heap.size) (wr.alloc (IE (bZ s.aF k))) 3 (jdR (bZ s.aF k)) [(bZ s.aF k).dW,(bZ s.aF k).src,(bZ s.aF k).dst,(bZ s.aF k).n] (by simp) (by simp) (λ_=>rfl) rfl).sl (by simp)).at_
   simp only[dK]at Yt
   have O4:=ah Yt;clear Yt;refine(yH _ rfl (.tmp 146) (.tmp 155) 23 3 rfl w.heap.size _ 1 8 underlying23 zS rfl (by decide) (by decide) _ _ [(bZ s.aF k).dW,(bZ s.aF k).src,(bZ s.aF k).dst,(bZ s.aF k).n] rfl ((ho'.O.alloc _).alloc _) (some ⟨wr.heap.size+1,0,none⟩) 4 _ rfl (λ_=>rfl) O4.O (λy=>Dv y) (by rw[hlk];simp;omega) (by simp only[dK];omega) (λv9 w9 C9 jg Oe AA=>?_))
   have Bj:=ah (((hBr.alloc hBr.size _).alloc (by simp only[dK];omega) _).trans AA)
   have Gs:=ah C9;clear C9 jg Oe AA ho' O4 e0 e1 e2 e3;go_wp2_with fail;go_roundw
   case rel=>exact⟨k+1,by omega,by go_num,by rw[hlt'.O];exact Gs.O,Bj.O⟩
   case measure=>simp[dY];omega
  ·obtain rfl:k=s.aF.length:=by omega
   rw[dR]at ho'
   go_wp2_with fail;exact bV (v:=.slice Ao (s.aF.length*4) co) (by simp[results,results40,go_sem]) rfl ⟨hBr,.inr (.inr ⟨_,_,hres.O,rfl,(ho'.O.sl (by rw[A8 (n:=4) _ (λ_=>rfl)];omega))⟩)⟩
theorem jfp(w:World)(tb:Nat)(V:SV)(vl:Value)(p:dG)(s:aI)(op:List Nat)(l:List Int)(e1:op=CO)(Ab:Option Addr)(cb:Nat)(As:Option Addr)(cs:Nat)(ht:GV w tb (.slice Ab p.dP.length cb) (.slice As p.aW.length cs) V)(hP:∀W,Below w w W->kK W W.heap.size (.agg (xu p Ab cb As cs)) p)(hm:∀W,Below w w W->kG W W.heap.size V.val s)(hl:Sl iW w w vl l)(h0:l.length=0)(hsz:aO p s=0):
  Calls prog 40 #[.pointer (some tb),.string (eY op),vl] w (GX (nD p s op l) w):=by
 have d1:(eY op).toList=[111,112,101,110]:=by rw[e1];exact tN _
 have q0:((l.length:Int)==0)=true:=by rw[h0];rfl
 have hres:=ah (show nD p s op l=some ([G8 s],0)by
  rw[e1];unfold nD;simp[h0,sD,sF,uJ,uI,CO])
 obtain⟨A,c,rfl⟩:=hl.isSlice;have hbk:=ah (show ∀W,Below w w W->Calls prog 69 #[.agg (xu p Ab cb As cs),.agg #[V.on,V.ak,V.aA,V.aF,V.jf,V.O,V.dB]] W λe w'=>e=.returned (.tuple #[(G8 s),zI])/\Below W.heap.size W w' from λW hW=>by
  have:=jpD W (.agg (xu p Ab cb As cs)) (.agg #[V.on,V.ak,V.aA,V.aF,V.jf,V.O,V.dB]) p s (hP W hW) (hm W hW);rwa [jcn hsz]at this)
 have ht':=ah ht;have htl:=ht.lt;clear e1 hl h0 ht hP hm;go_enter func40,ntmps40
 go_wp2_with fail;refine IX 14 [rV 165 (.pointer (some tb)),rV 166 (.pointer (some tb)),rV 167 (.pointer (some tb)),rV 168 (.agg (xu p Ab cb As cs)),rV 169 (.pointer (some tb)),rV 170 (.pointer (some tb)),rV 171 (.pointer (some ⟨tb,2,none⟩)),rV 172 (.agg #[V.on,V.ak,V.aA,V.aF,V.jf,V.O,V.dB]),λgq w'=>(λv w'=>v=.tuple #[(G8 s),zI]) (gq 173) w',rV 164 (.tuple #[(G8 s),zI]),rV 174 ((G8 s)),rV 175 (zI),rV 17 ((G8 s)),rV 18 (zI)] ?_ (λf W1 hb1 hR=>?_)
 simp only[aG,aS];refine bT.v (λgq w' hb ho hd=>?_) ?_
 ·have e0:=ho 0 rfl;go_simp
 refine bT.v (λgq w' hb ho hd=>?_) ?_
 ·have e165:_=_:=hd.d 0;go_simp
 refine bT.v (λgq w' hb ho hd=>?_) ?_
 ·have e166:_=_:=hd.d 1;go_simp
 refine bT.v (λgq w' hb ho hd=>?_) ?_
 ·have e167:_=_:=hd.d 2;have h:=ht'.O.below hb htl;have y0:=h.cell (j:=0) rfl;have y1:=h.cell (j:=1) rfl;go_simp
 refine bT.v (λgq w' hb ho hd=>?_) ?_
 ·have e0:=ho 0 rfl;go_simp
 refine bT.v (λgq w' hb ho hd=>?_) ?_
 ·have e169:_=_:=hd.d 4;go_simp
 refine bT.v (λgq w' hb ho hd=>?_) ?_
 ·have e170:_=_:=hd.d 5;go_simp
 refine bT.v (λgq w' hb ho hd=>?_) ?_
 ·have e171:_=_:=hd.d 6;have h:=ht'.O.below hb htl;have y0:=h.cell (j:=2) rfl;have y1:=h.cell (j:=3) rfl;have y2:=h.cell (j:=4) rfl;have y3:=h.cell (j:=5) rfl;have y4:=h.cell (j:=6) rfl;have y5:=h.cell (j:=7) rfl;have y6:=h.cell (j:=8) rfl;go_simp
 refine bT.cons (sN.one (d:=173) (p:=(λv w'=>v=.tuple #[(G8 s),zI])) rfl rfl (λv w1 w2 h hb=>h) (λgq w' hb ho hd=>?_)) ?_
 ·have e168:_=_:=hd.d 3;have e172:_=_:=hd.d 7;unfold iq;go_simp
  refine(hbk.O w' hb).mono ?_
  rintro e w2 ⟨rfl,hb2⟩;exact⟨_,rfl,rfl,hb2⟩
 refine bT.v (λgq w' hb ho hd=>?_) ?_
 ·have e173:(gq 173)=.tuple #[(G8 s),zI]:=hd.d 8;go_simp
 refine bT.v (λgq w' hb ho hd=>?_) ?_
 ·have jvz:_=_:=hd.d 9;go_simp
 refine bT.v (λgq w' hb ho hd=>?_) ?_
 ·have jvz:_=_:=hd.d 9;go_simp
 refine bT.v (λgq w' hb ho hd=>?_) ?_
 ·have e174:_=_:=hd.d 10;go_simp
 refine bT.v (λgq w' hb ho hd=>?_) ?_
 ·have e175:_=_:=hd.d 11;go_simp
 exact bT.nil;simp only[Jh]at hR
 simp only[kP,qJ,aG,aS,bU,dH,bY,cO,dA,dL,aQ,bG,bH,hR];clear hR;refine eP ?_
 go_wp2_with fail;exact bV (v:=.slice (some W1) 1 1) (by simp[results,results40,go_sem]) rfl ⟨hb1.alloc hb1.size _,.inr (.inr ⟨_,_,hres.O,rfl,(Own.lit (enc:=iW) (size:=1) (aT:=W1.heap.size) W1 3 #[(G8 s)] [G8 s] (ay _) (by simp) (λ_=>rfl) rfl).sl (by simp)⟩)⟩
end
section
attribute [local go_sem] aV jF iY jI
theorem jdv(w:World)(tb:Nat)(pb ps:Value)(V:SV)(vl:Value)(p:dG)(s:aI)(op:List Nat)(l:List Int)(e1:op=sF)(ht:GV w tb pb ps V)(hv:kG w w V.val s)(hl:Sl iW w w vl l)(h0:∀n∈l,0<=n)(h1:l.length=1)(hsz:aO p s=0):
  Calls prog 40 #[.pointer (some tb),.string (eY op),vl] w (GX (nD p s op l) w):=by
 have d1:(eY op).toList=[111,114,100,101,114]:=by rw[e1];exact tN _
 have hop':=ah e1;obtain⟨A,c,rfl⟩:=hl.isSlice;have hA:=ah hl.at_;have q1:((l.length:Int)==1)=true:=by rw[h1];rfl
 have hlp:0<l.length:=by omega
 obtain⟨A0,c0,A1,c1,A2,c2,A3,c3,hT,hN,hO,hH,hM⟩:=VE ht hv;obtain⟨ok0,lA,z0⟩:=hA.O.int (i:=0) (by omega)
 rw[fZ]at z0
 obtain⟨b,hbb⟩:∃b:Nat,aZ l 0=(b:Int):=⟨(aZ l 0).toNat,by have:=first_pos h0 hlp;omega⟩
 have h4:=(gB.1 hsz).1.nX;have hl3:=λho=>((gB.1 hsz).1.rE (o:=b) ho).2
 have hres:=ah (show nD p s op l=if b<s.ak.length then some ((s.aC b).eH::(s.aC b).aH.flatMap (λx=>[x.jk,x.qI,x.eU]),0)else some ([],4)by
  rw[hop'.O];unfold nD;have e:l.getD 0 0=(b:Int):=hbb;rw[au (by simp[sF,sD]),aB ⟨rfl,h1⟩,e]
  by_cases hlt:b<s.ak.length
  ·rw[aB hlt,aB (by omega)]
   rfl
  ·rw[au hlt,au (by omega)])
 rw[hbb]at z0
 clear e1 hl ht hv hsz hbb h0 h1;obtain⟨bq,hbq⟩:∃bq:Bool,decide ((b:Int)<(s.ak.length:Int))=bq:=⟨_,rfl⟩;go_enter func40,ntmps40
 go_wp2_with fail;refine IX 10 [rV 59 (.slice A l.length c),rV 60 (.pointer (some ⟨iH A,l9 A,none⟩)),rV 61 ((b:Int)),rV 62 (.pointer (some tb)),rV 63 (.pointer (some tb)),rV 64 (.pointer (some ⟨tb,2,none⟩)),rV 65 (.pointer (some ⟨tb,3,none⟩)),rV 66 (.slice A1 s.ak.length c1),rV 67 (s.ak.length),rV 68 (.bool bq)] ?_ (λf W1 hb1 hR=>?_)
 simp only[aG,aS];refine bT.v (λgq w' hb ho hd=>?_) ?_
 ·have e2:=ho 2 rfl;go_simp
 refine bT.v (λgq w' hb ho hd=>?_) ?_
 ·have e59:_=_:=hd.d 0;go_simp
 refine bT.v (λgq w' hb ho hd=>?_) ?_
 ·have e60:_=_:=hd.d 1;have y:=(hb.cell (p:=⟨iH A,l9 A,none⟩) lA).trans z0;go_simp
 refine bT.v (λgq w' hb ho hd=>?_) ?_
 ·have e0:=ho 0 rfl;go_simp
 refine bT.v (λgq w' hb ho hd=>?_) ?_
 ·have e62:_=_:=hd.d 3;go_simp
 refine bT.v (λgq w' hb ho hd=>?_) ?_
 ·have e63:_=_:=hd.d 4;go_simp
 refine bT.v (λgq w' hb ho hd=>?_) ?_
 ·have e64:_=_:=hd.d 5;go_simp
 refine bT.v (λgq w' hb ho hd=>?_) ?_
 ·have e65:_=_:=hd.d 6;have y:=(hT.O w' hb).2.1;go_simp
 refine bT.v (λgq w' hb ho hd=>?_) ?_
 ·have e66:_=_:=hd.d 7;go_simp
 refine bT.v (λgq w' hb ho hd=>?_) ?_
 ·have e61:_=_:=hd.d 2;have e67:_=_:=hd.d 8;rw[<- hbq];go_simp
 exact bT.nil;simp only[Jh]at hR
 simp only[kP,qJ,aG,aS,bU,dH,bY,cO,dA,dL,aQ,bG,bH,hR];clear hR;cases bq with
 |false=>
  have Xv:=ah (show nD p s op l=some ([],4)by rw[hres.O,au];have:=of_decide_eq_false hbq;omega)
  clear hbq hres;go_wp2_with (go_at_call 39;refine(Gx _ _).mono ?_;rintro e w' ⟨rfl,rfl⟩)
  exact⟨rfl,hb1,.inr (.inl ⟨_,_,Xv.O,by decide,rfl⟩)⟩
 |true=>
  have N9:b<s.ak.length:=by have:=rY hbq;omega
  have hbi:(b:Int)<(s.ak.length:Int):=by omega
  have hl3:=hl3 N9;have hres2:nD p s op l=some ((s.aC b).eH::(s.aC b).aH.flatMap (λx=>[x.jk,x.qI,x.eU]),0):=by rw[hres.O,aB N9]
  obtain⟨r,hr⟩:∃r,s.aC b=r:=⟨_,rfl⟩;have hr':bK s.ak b=r:=hr;rw[hr]at hres2 hl3
  have Xv:=ah hres2;clear hres hres2 hr hbq;have z1:=(hb1.cell (p:=⟨iH A,l9 A,none⟩) lA).trans z0;have lA1:=aJ lA hb1.size;obtain⟨Al,cl,ol,ll,d0,d2,hsl⟩:=(hO.O W1 hb1).aC N9;rw[hr']at d0 d2 hsl
  go_wp2_with (go_at_call 39;refine(Tq _ _).mono ?_;rintro e w' ⟨rfl,rfl⟩)
  refine IX 11 [rV 70 (.pointer (some tb)),rV 71 (.pointer (some tb)),rV 72 (.pointer (some ⟨tb,2,none⟩)),rV 73 (.pointer (some ⟨tb,3,none⟩)),rV 74 (.slice A1 s.ak.length c1),rV 75 (.slice A l.length c),rV 76 (.pointer (some ⟨iH A,l9 A,none⟩)),rV 77 ((b:Int)),rV 78 (.pointer (some ⟨iH A1,l9 A1+b*2,none⟩)),rV 79 (.agg #[r.eH,.slice Al r.aH.length cl]),λgq w'=>(λv w'=>∃bb,W1.heap.size<=bb/\v=.pointer (some ⟨bb,0,none⟩)/\iJ w' bb 114 [zI,nS]) (gq 10) w'] ?_ (λf2 W2 hb2 hR=>?_)
  simp only[aG,aS];refine bT.v (λgq w' hb ho hd=>?_) ?_
  ·have e0:=ho 0 rfl;go_simp
  refine bT.v (λgq w' hb ho hd=>?_) ?_
  ·have e70:_=_:=hd.d 0;go_simp
  refine bT.v (λgq w' hb ho hd=>?_) ?_
  ·have e71:_=_:=hd.d 1;go_simp
  refine bT.v (λgq w' hb ho hd=>?_) ?_
  ·have e72:_=_:=hd.d 2;go_simp
  refine bT.v (λgq w' hb ho hd=>?_) ?_
  ·have e73:_=_:=hd.d 3;have y:=(hT.O w' (fD hb1 hb)).2.1;go_simp
  refine bT.v (λgq w' hb ho hd=>?_) ?_
  ·have e2:=ho 2 rfl;go_simp
  refine bT.v (λgq w' hb ho hd=>?_) ?_
  ·have e75:_=_:=hd.d 5;go_simp
  refine bT.v (λgq w' hb ho hd=>?_) ?_
  ·have e76:_=_:=hd.d 6;have y:=(hb.cell (p:=⟨iH A,l9 A,none⟩) lA1).trans z1;go_simp
  refine bT.v (λgq w' hb ho hd=>?_) ?_
  ·have e74:_=_:=hd.d 4;have e77:_=_:=hd.d 7;go_simp
  refine bT.v (λgq w' hb ho hd=>?_) ?_
  ·have e78:_=_:=hd.d 8;have u0:=(hb.cell (p:=⟨iH A1,l9 A1+b*2,none⟩) ll).trans d0;have u1:=(hb.cell (p:=⟨iH A1,l9 A1+b*2+1,none⟩) ll).trans d2;go_simp
  refine bT.cons (sN.one (d:=10) (p:=(λv w'=>∃bb,W1.heap.size<=bb/\v=.pointer (some ⟨bb,0,none⟩)/\iJ w' bb 114 [zI,nS])) rfl rfl (λv w1 w2 h hb=>let ⟨bb,h0,h1,h2⟩:=h;⟨bb,h0,h1,h2.below hb h2.lt⟩) (λgq w' hb ho hd=>?_)) ?_
  ·unfold iq;go_simp
   exact⟨⟨_,hb.size,rfl,iJ.new _ _ _⟩,(aj _ _).alloc (ay _) _⟩
  exact bT.nil;obtain⟨r70,r71,r72,r73,r74,r75,r76,r77,r78,r79,r10,_⟩:=hR;replace r10:∃bb,W1.heap.size<=bb/\(f2 10)=.pointer (some ⟨bb,0,none⟩)/\iJ W2 bb 114 [zI,nS]:=r10;simp only[kP,qJ,aG,aS,bU,dH,bY,cO,dA,dL,aQ,bG,bH,r70,r71,r72,r73,r74,r75,r76,r77,r78,r79];clear r70 r71 r72 r73 r74 r75 r76 r77 r78 r79;obtain⟨bb,hbl,r10,hbb⟩:=r10;simp only[r10];clear r10 d0 d2 ol ll z1 lA1;refine jP rfl 114 (.tmp 10) (.tmp 79) rfl bb #[r.eH,.slice Al r.aH.length cl] rfl rfl 114 _ hbb (by kernel_rfl) rfl (by simp[Value.oneCell']) ?_
  have h02:=fD hb1 hb2;have ja9:=ah (show iJ (W2.setRow bb #[r.eH,.slice Al r.aH.length cl]) bb 114 [r.eH,.slice Al r.aH.length cl]from iJ.row hbb [r.eH,.slice Al r.aH.length cl])
  have h03:=tV h02 (aU hb1.size hbl) #[r.eH,.slice Al r.aH.length cl];have h13:=tV hb2 hbl #[r.eH,.slice Al r.aH.length cl];have jrD:=ah (hsl.up h13 (ay _));clear hbb h02 hb2 hbl hsl;generalize W2.setRow bb #[r.eH,.slice Al r.aH.length cl]=W3 at ja9 h03 h13 jrD ⊢
  refine eP ?_
  have g0:=ja9.O.cell (j:=0) rfl;have hs3:=h03.size;go_wp2_with (at_builtin;refine bD ?_)
  unfold Hid;refine jV _ rfl (.tmp 80) (.tmp 83) 23 3 rfl W3.heap.size _ 1 8 underlying23 zS rfl (by decide) (by decide) (nS) ([]:List Int) r.eH rfl Own.nil W3 1 rfl rfl (cell_one_new _ _ _) (Dv _) (by simp) (by simp only[dK];omega) ?_
  intro v9 w9 C9 jg Oe AA;obtain⟨A9,c9,jaY⟩:=C9.isSlice;subst jaY;have hh9:Below W3 W3 w9:=((aj _ _).alloc (ay _) _).trans AA;have g1:=(ja9.O.below hh9 ja9.O.lt).cell (j:=1) rfl;have Gs:=ah C9;have jrX:=ah hh9;clear C9 jg Oe AA hh9 g0 ja9;go_wp2_with fail;clear g1;go_loopw[9,88] (λv i wr=>∃k:Nat,k<=r.aH.length/\i=.int .i64 (k:Nat)/\Own iW 1 3 wr W3.heap.size v (r.eH::(r.aH.take k).flatMap (λx=>[x.jk,x.qI,x.eU]))/\Below W3.heap.size W3 wr) (λ_ i _=>r.aH.length - (RowKit.intOf i).toNat)
  case atStart=>exact⟨0,aN _,rfl,Gs.O,jrX.O⟩
  case round=>
   clear Gs jrX;obtain⟨k,hk,rfl,C9,h3r⟩:=hrel;have hBr:=h03.trans (h3r.mono hs3);have hlk:(r.eH::(r.aH.take k).flatMap (λx=>[x.jk,x.qI,x.eU])).length=k*3+1:=by rw[bP,A8 (n:=3) _ (λ_=>rfl),bC];congr 2;omega
   obtain⟨Ao,co,TM⟩:=C9.isSlice;subst TM;rw[hlk]at C9 ⊢
   have ho':=ah C9;clear C9;by_cases hlt:k<r.aH.length
   ·have hki:(k:Int)<(r.aH.length:Int):=by omega
    obtain⟨okl,lll,e0,e1,e2,e3⟩:=(jrD.O.up (h3r.mono h13.size) (ay _)).at_.aK hlt;have lll':iH Al<wr.heap.size:=aJ lll (aU h13.size h3r.size);have hlt':=ah (JG (λx:Line=>[x.jk,x.qI,x.eU]) r.aH IU hlt)
    have hbs:=h3r.size;go_wp2_with (at_builtin;refine bD ?_)
    unfold Hid;have Yt:=((Own.lit (enc:=iW) (size:=1) (aT:=wr.heap.size) (wr.alloc (xZ (fG r.aH k))) 3 #[.int .i64 (fG r.aH k).jk,.int .i64 (fG r.aH k).qI,.int .i64 (fG r.aH k).eU] [(fG r.aH k).jk,(fG r.aH k).qI,(fG r.aH k).eU] (by simp) (by simp) (λ_=>rfl) rfl).sl (by simp)).at_
    simp only[dK]at Yt
    have O4:=ah Yt;clear Yt;refine(yH _ rfl (.tmp 92) (.tmp 99) 23 3 rfl W3.heap.size _ 1 8 underlying23 zS rfl (by decide) (by decide) _ _ [(fG r.aH k).jk,(fG r.aH k).qI,(fG r.aH k).eU] rfl ((ho'.O.alloc _).alloc _) (some ⟨wr.heap.size+1,0,none⟩) 3 _ rfl (λ_=>rfl) O4.O (λy=>Dv y) (by rw[hlk];simp;omega) (by simp only[dK];omega) (λv9 w9 C9 jg Oe AA=>?_))
    have Bj:=ah (((h3r.alloc h3r.size _).alloc (by simp only[dK];omega) _).trans AA)
    have Gs:=ah C9;clear C9 jg Oe AA ho' O4 e0 e1 e2 e3 hBr h3r;go_wp2_with fail;go_roundw
    case rel=>exact⟨k+1,by omega,by go_num,by rw[hlt'.O];exact Gs.O,Bj.O⟩
    case measure=>simp[dY];omega
   ·obtain rfl:k=r.aH.length:=by omega
    rw[dR]at ho' hlk
    go_wp2_with fail;exact bV (v:=.slice Ao (r.aH.length*3+1) co) (by simp[results,results40,go_sem]) rfl ⟨hBr,.inr (.inr ⟨_,_,Xv.O,rfl,(ho'.O.sl (by rw[hlk];omega))⟩)⟩
theorem jpz(w:World)(tb:Nat)(V:SV)(aT:Nat)(vl:Value)(p:dG)(s:aI)(op:List Nat)(l:List Int)(Ab:Option Addr)(cb:Nat)(As:Option Addr)(cs:Nat)(ht:GV w tb (.slice Ab p.dP.length cb) (.slice As p.aW.length cs) V)(hP:∀W,Below w w W->kK W W.heap.size (.agg (xu p Ab cb As cs)) p)(hm:zn aT V p s w)(hop:∀x∈op,x<256)(hl:Sl iW w w vl l)(h0:∀n∈l,0<=n)(hsz:aO p s=0):
  Calls prog 40 #[.pointer (some tb),.string (eY op),vl] w (GX (nD p s op l) w):=by
 have hv:=hm.made.view;have no:=λh=>jfq w (.pointer (some tb)) vl op l hop hl h
 have none_:∀(h:nD p s op l=none),Calls prog 40 #[.pointer (some tb),.string (eY op),vl] w (GX none w)->Calls prog 40 #[.pointer (some tb),.string (eY op),vl] w (GX (nD p s op l) w):=λh c=>by rw[h];exact c
 by_cases e1:op=sD
 ·by_cases h:l.length=1
  ·exact jdu w tb _ _ V vl p s op l e1 ht hv hl h0 h hsz
  ·exact none_ (by rw[e1];unfold nD;simp[h,sD,sF,uJ,uI,CO]) (no (.inl ⟨e1,h⟩))
 by_cases e2:op=sF
 ·by_cases h:l.length=1
  ·exact jdv w tb _ _ V vl p s op l e2 ht hv hl h0 h hsz
  ·exact none_ (by rw[e2];unfold nD;simp[h,sD,sF,uJ,uI,CO]) (no (.inr (.inl ⟨e2,h⟩)))
 by_cases e3:op=uJ
 ·by_cases h:l.length=0
  ·exact jdx w tb _ _ V vl p s op l e3 ht hv hl h hsz
  ·exact none_ (by rw[e3];unfold nD;simp[h,sD,sF,uJ,uI,CO]) (no (.inr (.inr (.inl ⟨e3,h⟩))))
 by_cases e4:op=uI
 ·by_cases h:l.length=0
  ·exact jdw w tb _ _ V vl p s op l e4 ht hv hl h hsz
  ·exact none_ (by rw[e4];unfold nD;simp[h,sD,sF,uJ,uI,CO]) (no (.inr (.inr (.inr (.inl ⟨e4,h⟩)))))
 by_cases e5:op=CO
 ·by_cases h:l.length=0
  ·exact jfp w tb V vl p s op l e5 Ab cb As cs ht hP (λW hW=>(hm.below hW).made.view) hl h hsz
  ·exact none_ (by rw[e5];unfold nD;simp[h,sD,sF,uJ,uI,CO]) (no (.inr (.inr (.inr (.inr (.inl ⟨e5,h⟩))))))
 exact none_ (by unfold nD;simp[e1,e2,e3,e4,e5]) (no (.inr (.inr (.inr (.inr (.inr ⟨e1,e2,e3,e4,e5⟩))))))
end
section
attribute [local go_sem] aV jF iY jI
theorem jnL(w:World)(t:List Nat)(hL:F8 w)(hb:∀n∈t,n<256)(hl:t.length<=4096):Calls prog 35 #[.string (eY t),.string ⟨#[32]⟩] w λe w'=>e=.returned (.slice (some w) (splitB 32 t).length (splitB 32 t).length)/\iJ w' w 9 ((splitB 32 t).flatMap cStr)/\Below w w w':=by
 obtain⟨m,hm⟩:=hL.max;have hs:=pK t;refine(Wh.strings_Split (eY t) ⟨#[32]⟩ m w (by omega) hm (by decide)).mono ?_
 rintro e w' ⟨rfl,rfl⟩;obtain⟨h1,h2⟩:=YC (c:=32) (by decide) hb
 have e1:(Lib.splitB ⟨#[32]⟩ 0 (Lib.countB (eY t) ⟨#[32]⟩) (eY t)).map Value.string=(splitB 32 t).flatMap cStr:=by
  rw[show Lib.splitB ⟨#[32]⟩ 0 (Lib.countB (eY t) ⟨#[32]⟩) (eY t)=(splitB 32 t).map eY from h1,Aq]
  induction splitB 32 t with
  |nil=>rfl
  |cons a r ih=>rw[dJ,ih];rfl
 rw[show Lib.countB (eY t) ⟨#[32]⟩+1=(splitB 32 t).length from h2,e1]
 exact⟨rfl,iJ.new _ _ _,(aj _ _).alloc (ay _) _⟩
theorem Zz:∀ {l:List (List Nat)} {xs:List Int},zi l=some xs->∀n∈xs,0<=n
 |[],xs,h,n,hn=>by
  rw[zi]at h
  injection h with h
  rw[<- h]at hn
  cases hn
 |y::r,xs,h,n,hn=>by
  rw[zi]at h
  split at h
  ·cases h
  ·cases hr:zi r with
   |none=>rw[hr]at h;cases h
   |some xs'=>
    rw[hr]at h
    injection h with h
    rw[<- h]at hn
    rcases fF.1 hn with rfl|hn
    ·omega
    ·exact Zz hr n hn
def Ya(n:Nat):Nat:=if n=0 then 0 else 1
theorem jhw(n:Nat):Ya n=1\/n=0:=by
 unfold Ya;split
 ·exact .inr (by assumption)
 ·exact .inl rfl
theorem jii(g n:Nat)(w:World):(Instr.sliceAt 77 (.slice (some ⟨g,0,none⟩) (n+1) (n+1)) (some (.int .i64 1)) none none).run prog w=.ok (.slice (some ⟨g,Ya n,none⟩) n n) w:=by
 by_cases h:n=0
 ·subst h;kernel_rfl
 ·have e:Ya n=1:=au h;have h1:¬(n+1=1):=by omega
  rw[e,run_sliceAt_slice _ _ _ _ _ _ (by kernel_rfl),run_slice_l _ _ _ _ _ (by kernel_rfl) _ _ (by decide) (by omega)]
  have e2:(Go.sizeOf (prog.elem 77)).run prog w=.ok 1 w:=by kernel_rfl
  rw[e2];show Go.Result.ok (sliced _ _ _ _ _) w=_;simp[sliced,h,Addr.add]
attribute [local go_sem high] jii
def KF(p:dG)(s:aI)(t:List Nat)(aT tb:Nat)(pb ps:Value)(w:World)(e:Ending)(w':World):Prop:=∃V':SV,e=.returned (.string (eY (EJ p s t).2))/\GV w' tb pb ps V'/\zn aT V' p (EJ p s t).1 w'/\Step (·=tb) w w'
theorem TP{ops:Array Oper}{rest:List Oper}{o:Oper}{a:Go.Act}{w:World}{Q:Exit->Go.Act->World->Prop}(hgd:o.guard=none)(x y:Operand)(ho:o.op=.store 40 x y)(hn:o.dst=none)(tb:Nat)(pb ps:Value)(V V':SV)
  (ht:GV w tb pb ps V) (hx:a.eval x=.pointer (some ⟨tb,2,none⟩)) (hy:a.eval y=V'.val) (h1:V'.cells.all (λu=>u.oneCell')=true)
  (h:∀w',GV w' tb pb ps V'->w.grownBy w' (some tb)->wpList prog ops Q rest a w'):wpList prog ops Q (o::rest) a w:=
 jo hgd λK hK=>by
  have hr:=Hq (P:=prog) w tb 2 42 40 ([pb,ps]++V.cells) V'.cells ht (ay _) (by kernel_rfl) (bJ.1 h1)
  have hy':a.eval y=.agg V'.cells.toArray:=hy;unfold Oper.wp execOp;simp only[ho,hx,hy',Instr.storeAt,Instr.sureAddr,iP,jc,gY,hr];have hk:=hK (a.put o.dst undef) _ (by rw[hn];exact h _ (iJ.row ht ([pb,ps]++V'.cells)) (wL w tb _))
  exact hk
theorem zn.Nw{w w':World}{aT b:Nat}{V:SV}{p:dG}{s:aI}{t:TypeId}{cur:List Value}(h:zn aT V p s w)(hg:w.grownBy w' (some b))(hb:iJ w b t cur)(h1:23≠t:=by decide)(h2:3≠t:=by decide)(h3:114≠t:=by decide)(h4:106≠t:=by decide)(h5:116≠t:=by decide)(h6:118≠t:=by decide):zn aT V p s w':=by
 rcases h with⟨h,hx⟩|⟨h,hx⟩
 ·exact .inl ⟨h.keptBy hg hb h1 h2 h3 h4 h5 h6,hx⟩
 ·exact .inr ⟨h.keptBy hg hb h1 h2,hx⟩
theorem UQ:∀o:List Int,Lib.join (o.map λn=>bytes (digits n.toNat)) [32]=bytes (lJ o)
 |[]=>rfl
 |[a]=>by simp[Lib.join_one,lJ]
 |a::b::r=>by
  have ih:=UQ (b::r);rw[dJ,Lib.join_cons]at ih
  rw[dJ,dJ,Lib.join_cons,Gj];show bytes (digits a.toNat)++((32::bytes (digits b.toNat))++Lib.joinTail [32] (r.map λn=>bytes (digits n.toNat)))=(digits a.toNat++32::lJ (b::r)).map UInt8.ofNat
  rw[gG,ih,gJ];rfl
theorem jrk(W:World)(aT:Nat)(v:Value)(o:List Int)(ho:Own cStr 1 9 W aT v (o.map λn=>digits n.toNat))(hf:∀n∈o,0<=n/\n<=9223372036854775807)(hl:o.length<=100000):
  Calls prog 41 #[v,.string ⟨#[32]⟩] W λe w'=>e=.returned (.string (eY (lJ o)))/\Below W W w':=by
 have lZ:=Lc o hf;obtain⟨xs,hxs⟩:∃xs:List ByteArray,xs=o.map λn=>eY (digits n.toNat):=⟨_,rfl⟩
 have hxl:xs.length=o.length:=by rw[hxs,gX]
 have hj:Lib.join (xs.map (·.data.toList)) (⟨#[32]⟩:ByteArray).data.toList=bytes (lJ o):=by
  rw[hxs,Aq,<- UQ];congr 1
 obtain⟨A,c,rfl⟩:=ho.isSlice;have hcap:=Own.cap ho;have hml:(o.map λn=>digits n.toNat).length=xs.length:=by rw[gX,hxl]
 rw[hml]at ho hcap ⊢
 by_cases h0:o=[]
 ·have e:xs.length=0:=by rw[hxl,h0];rfl
  have el:lJ o=[]:=by rw[h0];rfl
  rw[e,el];refine(Wh.strings_Join_none A c _ W).mono ?_
  rintro e w' ⟨rfl,rfl⟩;exact⟨rfl,aj _ _⟩
 ·have hat:=(ho.sl (by rw[gX];omega)).at_
  have hp:0<o.length:=uF.2 h0;obtain⟨g,c',e1,_,hg⟩:=ho.some_ (by rw[gX];exact hp)
  injection e1 with e1 e2 e3
  subst e1 e3;refine(Wh.strings_Join g 0 c xs _ W (λj x hx=>?_) hg (by omega) hcap (by rw[hj];show(List.map _ _).length<=_;rw[gX];omega)).mono ?_
  ·have hj':j<xs.length:=(fA.1 hx).1
   have:=(hat.str (i:=j) (by rw[gX];omega)).2.2
   subst hxs;rw[lG]at hx
   rw[AP]at this
   rw[bQ (by omega)]at hx
   injection hx with hx
   rw[<- hx];exact this
  ·rintro e w' ⟨rfl,hb⟩;rw[hj];exact⟨rfl,hb⟩
theorem jpA(w:World)(tb B aT:Nat)(V:SV)(p:dG)(s:aI)(t:List Nat)(Ab:Option Addr)(cb:Nat)(As:Option Addr)(cs:Nat)(ht:GV w tb (.slice Ab p.dP.length cb) (.slice As p.aW.length cs) V)(hP:kK w B (.agg (xu p Ab cb As cs)) p)(hBt:B<=tb)(hL:F8 w)(hm:zn aT V p s w)(hle:aT<=w.heap.size)(hsz:aO p s=0)(hb:∀n∈t,n<256)(hl:t.length<=4096):
  Calls prog 13 #[.pointer (some tb),.string (eY t)] w (KF p s t aT tb (.slice Ab p.dP.length cb) (.slice As p.aW.length cs) w):=by
 have hmf:∀(fn:Fn) (first cap:Array Value) (w:World),(Instr.makeFunc fn first cap).run prog w=.ok (.func fn first cap) w:=λ_ _ _ _=>rfl
 obtain⟨op,r,hps⟩:∃op r,splitB 32 t=op::r:=⟨_,_,KT.symm⟩;have xK:=ah (show EJ p s t=rM p s op r by unfold EJ;rw[hps];rfl)
 have hmem':=ah (show ∀x∈op::r,(∀n∈x,n<256)/\x.length<=4096 from λx hx=>by
  obtain⟨h1,h2⟩:=PV 32 t x (by rw[hps];exact hx)
  exact⟨λn hn=>hb n (h1 n hn),by omega⟩)
 have hlr:r.length<=5000:=by have:=JR 32 t;rw[hps]at this;simp only[bP]at this;omega
 have hsp:=ah (λW (hW:F8 W)=>jnL W t hW hb hl)
 have jon:=ah hps;have ht':=ah ht;have htl:=ht.lt;have hBw:B<=w.heap.size:=by omega
 have hm':=ah hm;have hsz':=ah hsz;have hL':=ah hL;have hP':=ah hP;clear hps hb ht hm hsz hL hP;go_enter_defers func13,ntmps13
 go_wp2_with fail;have hb0:Below w w (w.alloc (.cells #[.string ⟨#[]⟩] 9)):=(aj _ _).alloc (ay _) _;have hob:iJ (w.alloc (.cells #[.string ⟨#[]⟩] 9)) w 9 [.string ⟨#[]⟩]:=iJ.new _ _ _;have hs0:w.heap.size<(w.alloc (.cells #[.string ⟨#[]⟩] 9)).heap.size:=by simp
 generalize w.alloc (.cells #[.string ⟨#[]⟩] 9)=W0 at hb0 hob hs0 ⊢
 have jha:=ah hob;clear hob;refine(hsp.O W0 (hL'.O.up hb0)).mono ?_
 rintro e W1 ⟨rfl,hS1,hb1⟩;rw[jon.O]at hS1 ⊢
 simp only[bP];have hsl1:Sl cStr W1 W1 (.slice (some W0) (r.length+1) (r.length+1)) (op::r):=⟨_,_,rfl,by simp;omega,λ_=>⟨SE _ _,hS1.lt,λj v hj=>by
  have:=hS1.cell hj;have e:l9 (some (⟨W0.heap.size,0,none⟩:Addr))+j=j:=fM j;rw[e];exact this⟩⟩
 have jnb:=ah hsl1;have hg1:=hS1.lt;have hw0:W1.cell? W0=some (.string (eY op)):=hS1.cell (j:=0) (by simp[cStr])
 have jop:=ah (jha.O.below hb1 hs0);have h01:=fD hb0 hb1;have hle1:=h01.size;have hlt1:w.heap.size<W1.heap.size:=aJ hs0 hb1.size;clear hS1 hsl1 jha hb1;go_wp2_with fail;obtain⟨o',hcut,hoff⟩:∃o',Ya r.length=o'/\(o'=1\/r.length=0):=⟨_,rfl,jhw _⟩;simp only[hcut];have hat:=ah (jfP (o':=o') (c':=0) jnb.O hoff hlr).at_;clear hcut hoff;generalize (some (⟨W0.heap.size,o',none⟩:Addr))=Ar at hat ⊢
 go_loopw[6,22] (λv i wr=>∃k xs,k<=r.length/\i=.int .i64 (k:Nat)/\zi (r.take k)=some xs/\Own iW 1 3 wr W1.heap.size v xs/\Below W1.heap.size W1 wr) (λ_ i _=>r.length - (RowKit.intOf i).toNat)
 case atStart=>exact⟨0,[],aN _,rfl,rfl,Own.nil,aj _ _⟩
 case round=>
  obtain⟨k,xs,hk,rfl,hn,ho,h1r⟩:=hrel;obtain⟨A2,c2,rfl⟩:=ho.isSlice;have hxl:xs.length=k:=by
   have:=P7 hn;rw[bC]at this
   omega
  rw[hxl]at ho ⊢
  have ho':=ah ho;have hn':=ah hn;have h0r:=h01.trans (h1r.mono hle1);clear ho hn;by_cases hlt:k<r.length
  ·have hki:(k:Int)<(r.length:Int):=by omega
   obtain⟨ok1,lA,c0⟩:=(hat.O.up h1r (ay _)).str hlt;have hbx:=hmem'.O _ (aY _ (dh hlt));have hsn:=ah (show zi (r.take (k+1))=_ by rw[bM hlt,Q5,hn'.O,tq])
   go_wp2_with fail;clear c0;refine(jtb wr _ (hL'.O.up h0r) hbx.1 hbx.2).mono ?_
   rintro e w2 ⟨h2,⟨hn0,rfl⟩|⟨hn0,rfl⟩⟩
   ·rw[au (by omega)]at hsn
    have h12:=fD h1r h2;have ho2:=ah (ho'.O.below h2);clear ho' hn' h1r h0r;go_wp2_with (at_builtin;refine bD ?_)
    unfold Hid;refine jV _ rfl (.tmp 26) (.tmp 29) 23 3 rfl W1.heap.size _ 1 8 underlying23 zS rfl (by decide) (by decide) _ _ (J3 r[k]) rfl (ho2.O.alloc _) w2 1 rfl rfl (cell_one_new _ _ _) (Dv _) (by omega) (by simp only[dK];have:=h12.size;omega) ?_
    intro v9 w9 C9 jg Oe AA;have Bj:=ah ((h12.alloc h12.size _).trans AA);have Gs:=ah C9;clear C9 jg Oe AA ho2 h12 h2;go_wp2_with fail;go_roundw
    case rel=>exact⟨k+1,xs++[J3 r[k]],by omega,by go_num,hsn.O,Gs.O,Bj.O⟩
    case measure=>simp[dY];omega
   ·rw[aB hn0]at hsn
    have hB2:=fD h0r h2;have hres:rM p s op r=(s,refused 1):=by unfold rM;rw[Q7 hsn.O]
    have jg9:=jop.O.below (fD h1r h2) hlt1;clear ho' hn' h1r h0r h2 hsn;go_wp2_with fail;refine wz (f:=33) (args:=#[.pointer (some w)]) (by simp) (by simp[go_sem]) ?_
    refine(SI _ jg9 (hL'.O.up hB2) 1 (by omega) []).mono ?_
    rintro e u' w9 ⟨rfl,rfl,EO,uQ⟩;have b0:=EO.cell (j:=0) rfl;have Bj:=(hB2).trans (uQ.below (B:=w.heap.size) (λk hk=>by omega) (jw hB2))
    have dw:=ah (show KF p s t aT tb (.slice Ab p.dP.length cb) (.slice As p.aW.length cs) w (.returned (.string (eY (refused 1)))) w9 from⟨V,by rw[xK.O,hres],ht'.O.below Bj htl,by rw[xK.O,hres];exact hm'.O.below Bj,Step.of_below Bj⟩)
    clear EO uQ Bj;simp[Leaves,settle,results,results13,go_sem,b0]
    exact dw.O
  ·obtain rfl:k=r.length:=by omega
   rw[dR]at hn'
   have c0:=(h1r.cell (p:=W0) hg1).trans hw0;have hSn:=ah ((ho'.O).sl (by omega))
   have jg9:=ah (jop.O.below h1r hlt1);have hop:=ah (hmem'.O op (bW ..)).1;have Qp:xs.length<=5000:=by omega
   have hgr:=aJ hg1 h1r.size;have h1l:=ah h1r;clear hxl ho' h01 jop hat jnb h1r hw0;obtain⟨wl,rfl⟩:∃wl,wl=wr:=⟨_,rfl⟩;go_wp2_with fail;refine(jtc wl op _ xs hop.O hSn.O Qp).mono ?_
   rintro e W3 ⟨hb3,vd,d,rfl,hD,hdy⟩;have h03:=fD h0r hb3;obtain⟨Al,cl,rfl,hDV,_,_⟩:=SC hD;clear hD;have jl3:=ah hdy;clear hdy;cases ha:xq op xs with
   |some y=>
    simp only[ha,vK]at jl3 ⊢
    have VN:=(aj W3 W3).alloc (ay _) (.cells #[d.eH,d.a,d.b,d.c,d.n,.slice Al d.aH.length cl] 81);have hbd:=iJ.new W3 81 #[d.eH,d.a,d.b,d.c,d.n,.slice Al d.aH.length cl];go_wp2_with fail;generalize hWa:W3.alloc (.cells #[d.eH,d.a,d.b,d.c,d.n,.slice Al d.aH.length cl] 81)=wr at VN ⊢
    have hbd:iJ wr W3 81 [d.eH,d.a,d.b,d.c,d.n,.slice Al d.aH.length cl]:=by rw[<- hWa];exact hbd
    clear hWa;have Qu:=fD h03 VN;have hac:=ah (jl3.O y rfl p s);have hcode:=Ym (p:=p) (s:=s) (x:=d) hsz'.O;obtain⟨s1,c1,hact⟩:∃s1 c1,act p s d=(s1,c1):=⟨_,_,rfl⟩;rw[hact]at hcode
    obtain⟨n1,hn1⟩:∃n1:Nat,c1=(n1:Int):=⟨c1.toNat,by omega⟩
    subst hn1;have hw:=ah (show rM p s op r=if(n1:Int)=0 then(s1,wOk)else(s,refused n1)by
     unfold rM;rw[hn'.O];simp only[ha,<- hac.O,hact])
    have hs1:=ah (show n1=0->small s1=true from λh0=>Px (by have:=(Yl (p:=p) (s:=s) (x:=d) (by rw[hact,h0];rfl)).2.check;rwa [hact]at this))
    have jnw:=ah hact;have hmd:=ah (hm'.O.below Qu);have hta:=ah (ht'.O.below Qu htl);have jhi:=ah hbd;have lbd:=hbd.lt;have lta:=hta.O.lt;clear hact ha hac jl3 hbd;refine VX 16 (λwq=>Below wr wr wq) (jbz wr.heap.size) 13 14 (by decide) (by decide) (by decide) (λo ho=>by injection ho with ho;subst ho;exact⟨⟨13,.data⟩,by simp,rfl,rfl⟩)
     [λ_ gq _=>gq 42=.pointer (some tb),λ_ gq _=>gq 43=.pointer (some tb),λ_ gq _=>gq 44=.pointer (some tb),λ_ gq _=>gq 45=.agg (xu p Ab cb As cs),λ_ gq _=>gq 46=.pointer (some tb),λ_ gq _=>gq 47=.pointer (some tb),λ_ gq _=>gq 48=.pointer (some ⟨tb,2,none⟩),λ_ gq _=>gq 49=.agg #[V.on,V.ak,V.aA,V.aF,V.jf,V.O,V.dB],λ_ gq _=>gq 50=.agg #[d.eH,d.a,d.b,d.c,d.n,.slice Al d.aH.length cl],λph gq w'=>SB (λV=>.tuple #[V.val,n1]) wr s1 ph (gq 51) w',λph gq w'=>SB (λV=>.tuple #[V.val,n1]) wr s1 ph (gq 41) w',λph gq w'=>SB SV.val wr s1 ph (gq 52) w',λ_ gq _=>gq 53=n1,λph gq w'=>jfD wr ph (gq 11) w',λph gq w'=>ph=2/\Si 11 wr s1 gq w',λ_ gq _=>gq 12=n1] (by kernel_rfl) (by kernel_rfl) rfl (by kernel_rfl)
     (λw1 w2 h h'=>fD h h') (λk w1 w2 h h'=>h.trans h'.1) (aj _ _).drew ?_ (λf w5 h45 hR=>?_)
    ·simp only[aG,aS];refine BL.v (λph gq w' hb ho hd=>?_) ?_
     ·have e0:=ho 0 rfl;go_simp
     refine BL.v (λph gq w' hb ho hd=>?_) ?_
     ·have e42:_=_:=hd.d 0;go_simp
     refine BL.v (λph gq w' hb ho hd=>?_) ?_
     ·have e43:_=_:=hd.d 1;go_simp
     refine BL.v (λph gq w' hb ho hd=>?_) ?_
     ·have e44:_=_:=hd.d 2;have y0:=(iJ.below hta.O hb lta).cell (j:=0) rfl;have y1:=(iJ.below hta.O hb lta).cell (j:=1) rfl;go_simp
     refine BL.v (λph gq w' hb ho hd=>?_) ?_
     ·have e0:=ho 0 rfl;go_simp
     refine BL.v (λph gq w' hb ho hd=>?_) ?_
     ·have e46:_=_:=hd.d 4;go_simp
     refine BL.v (λph gq w' hb ho hd=>?_) ?_
     ·have e47:_=_:=hd.d 5;go_simp
     refine BL.v (λph gq w' hb ho hd=>?_) ?_
     ·have e48:_=_:=hd.d 6;have q:=iJ.below hta.O hb lta;have y0:=q.cell (j:=2) rfl;have y1:=q.cell (j:=3) rfl;have y2:=q.cell (j:=4) rfl;have y3:=q.cell (j:=5) rfl;have y4:=q.cell (j:=6) rfl;have y5:=q.cell (j:=7) rfl;have y6:=q.cell (j:=8) rfl;go_simp
     refine BL.v (λph gq w' hb ho hd=>?_) ?_
     ·have e9:=ho 9 rfl;have q:=jhi.O.below hb lbd;have y0:=q.cell (j:=0) rfl;have y1:=q.cell (j:=1) rfl;have y2:=q.cell (j:=2) rfl;have y3:=q.cell (j:=3) rfl;have y4:=q.cell (j:=4) rfl;have y5:=q.cell (j:=5) rfl;go_simp
     refine BL.cons (TG.one (d:=51) (p:=SB (λV=>.tuple #[V.val,n1]) wr s1) rfl rfl (by decide) (by decide) (λ_ _ _ _ h hb=>QY h hb) (λ_ _ _ _ _ h hb=>Ua h hb) (λph gq w' hb ho hd=>?_)) ?_
     ·have e45:_=_:=hd.d 3;have e49:_=_:=hd.d 7;have e50:_=_:=hd.d 8;unfold iq;go_simp
      have h0q:=fD Qu hb;have kDo:=jtR w' (.agg (xu p Ab cb As cs)) (.agg #[V.on,V.ak,V.aA,V.aF,V.jf,V.O,V.dB]) _ p s d (hP'.O.up (h0q.mono hBw) (aU hBw h0q.size)) (hmd.O.below hb).made.view (hDV.O _ (fD VN hb));rw[jnw.O]at kDo
      refine kDo.mono ?_
      rintro e w2 ⟨V2,rfl,ho2,hb2⟩;exact⟨_,rfl,⟨V2,rfl,ho2.from_ hb.size⟩,hb2⟩
     refine BL.cons (TG.one (d:=41) (p:=SB (λV=>.tuple #[V.val,n1]) wr s1) rfl rfl (by decide) (by decide) (λ_ _ _ _ h hb=>QY h hb) (λ_ _ _ _ _ h hb=>Ua h hb) (λph gq w' hb ho hd=>?_)) ?_
     ·have eq:SB (λV=>.tuple #[V.val,n1]) wr s1 ph (gq 51) w':=hd.d 9
      obtain⟨V3,eq,ho3⟩:=eq;have jos:=ah ho3;clear ho3;unfold iq;go_simp
      exact⟨⟨V3,rfl,jos.O⟩,aj _ _⟩
     refine BL.cons (TG.one (d:=52) (p:=SB SV.val wr s1) rfl rfl (by decide) (by decide) (λ_ _ _ _ h hb=>QY h hb) (λ_ _ _ _ _ h hb=>Ua h hb) (λph gq w' hb ho hd=>?_)) ?_
     ·have eq:SB (λV=>.tuple #[V.val,n1]) wr s1 ph (gq 41) w':=hd.d 10
      obtain⟨V3,eq,ho3⟩:=eq;have jos:=ah ho3;clear ho3;unfold iq;go_simp
      exact⟨⟨V3,rfl,jos.O⟩,aj _ _⟩
     refine BL.v (λph gq w' hb ho hd=>?_) ?_
     ·have eq:SB (λV=>.tuple #[V.val,n1]) wr s1 ph (gq 41) w':=hd.d 10
      obtain⟨V3,eq,ho3⟩:=eq;clear ho3;go_simp
     refine BL.cons (TG.first (d:=11) (p:=jfD wr.heap.size) rfl rfl (λ_ _ _ _ h hb=>jfC h hb) (λ_ _ _ h _=>jkL h) (λgq w' hb ho hd=>?_)) ?_
     ·unfold iq;go_simp
      have hal:Below w' w' (w'.alloc (.cells TL 40)):=(aj _ _).alloc (ay _) _;exact⟨⟨_,rfl,hb.size,λ_=>Dj _⟩,jaU hal hb.size⟩
     refine BL.cons (TG.second (p:=Si 11 wr s1) (by decide) rfl (λ_ _ _ h hb=>YB h hb) (λgq gq' w1 he h=>by
       have e1:=he 13 _ 11 (TJ.eU (e:=⟨13,.data⟩) rfl (by simp) rfl rfl (TJ.self _)) rfl rfl
       unfold Si;rw[<- e1];exact h) (λgq w' hb ho hd=>?_)) ?_
     ·have eb:jfD wr 1 (gq 11) w':=hd.d 13;have ev:SB SV.val wr s1 1 (gq 52) w':=hd.d 11;obtain⟨b,eb,hbl,N9⟩:=eb;obtain⟨V3,ev,ho3⟩:=ev;have N9:=N9 (ay _);refine KY (.tmp 11) (.tmp 52) rfl b dV V3 N9 eb ev ho3.one (λw8 IL Qq=>?_)
      exact⟨⟨b,V3,eb,hbl,IL,ho3.keptBy Qq N9.blk⟩,jeH N9 hbl Qq⟩
     refine BL.v (λph gq w' hb ho hd=>?_) ?_
     ·have e53:_=_:=hd.d 12;go_simp
     exact BL.nil
    obtain⟨r42,r43,r44,r45,r46,r47,r48,r49,r50,⟨Va,r51,_⟩,⟨Vb,r41,_⟩,⟨Vc,r52,_⟩,r53,_,⟨_,bb,V2,r11,hlb,OV,jlR⟩,r12,_⟩:=hR;simp only[kP,qJ,aG,aS,bU,dH,bY,cO,dA,dL,aQ,bG,bH,r42,r43,r44,r45,r46,r47,r48,r49,r50,r51,r41,r52,r53,r11,r12];clear r42 r43 r44 r45 r46 r47 r48 r49 r50 r51 r41 r52 r53 r11 r12;refine eP ?_
    have h05:=fD Qu h45;have h15:=(fD hb3 VN).trans (h45.mono (aU hb3.size VN.size));have hlw:w.heap.size<wl.heap.size:=aJ hlt1 h1l.O.size;have jeV:=jg9.O.below h15 hlw;have ht5:=hta.O.below h45 lta;clear jg9 jhi hmd hta jnw hDV;by_cases hc:n1=0
    ·subst hc;have hres:rM p s op r=(s1,wOk):=hw.O;have jrJ:=jlR.one;obtain⟨q0,q1,q2,q3,q4,q5,q6⟩:=OV.cells;have hM5:=ah (show zn aT V2 p s1 w5 from .inl ⟨jlR.from_ (aU hle Qu.size),hs1.O rfl⟩)
     have jnh:=ah jeV;have joc:=ah ht5;clear jlR jeV ht5 hw hs1;go_wp2_with (first|(refine TP rfl (.tmp 61) (.tmp 59) rfl rfl tb _ _ V V2 joc.O rfl rfl jrJ (λw7 ht7 UU=>?_);refine bD ?_)|(go_at_call 39;refine(Tq _ _).mono ?_;rintro e w' ⟨rfl,rfl⟩))
     unfold Hid;have hM7:=ah (hM5.O.Nw UU joc.O);have Vm:=jnh.O.grown UU (by intro he;injection he with he;omega)
     have Dy:=ah ((Step.of_below h05).trans (Step.nG (ks:=(·=tb)) UU (λq hq=>by injection hq with hq;exact hq.symm)))
     have jt3:=ah ht7;clear hM5 jnh UU joc q0 q1 q2 q3 q4 q5 q6 ht7 OV;have c7:=Vm.cell (j:=0) rfl;have f7:=Vm.frozen 0;go_wp2_with fail;refine wz (f:=33) (args:=#[.pointer (some w)]) (by simp) (by simp[go_sem]) ?_
     refine(jiQ _ _).mono ?_
     rintro e u' w9 ⟨rfl,rfl,AA⟩;obtain⟨Yp,Qq⟩:=Az Vm 0 (.string ⟨#[111,107]⟩);have b0:=(Yp.below AA Yp.lt).cell (j:=0) rfl;have ht8:=iJ.grown jt3.O Qq (by intro he;injection he with he;omega)
     have ht9:=ht8.below AA ht8.lt;have hM9:=(zn.Nw hM7.O Qq Vm).below AA;have uQ:=(Step.trans' Dy.O (Step.nG (ks:=(·=w.heap.size)) Qq (λq hq=>by injection hq with hq;exact hq.symm)) (λk hk he=>by omega)).trans (Step.of_below AA)
     have dw:=ah (show KF p s t aT tb (.slice Ab p.dP.length cb) (.slice As p.aW.length cs) w (.returned (.string ⟨#[111,107]⟩)) w9 from⟨V2,(by rw[xK.O,hres];try rfl),ht9,by rw[xK.O,hres];exact hM9,uQ⟩)
     clear Yp Qq AA ht8 ht9 hM9 uQ;simp[Leaves,settle,results,results13,go_sem,b0]
     exact dw.O
    ·have hres:rM p s op r=(s,refused n1):=by rw[hw.O,au (by omega)]
     have hc':((n1:Int)==0)=false:=by simpa using hc
     clear hw hs1 jlR OV ht5;go_wp2_with (go_at_call 39;refine(Gx _ _).mono ?_;rintro e w' ⟨rfl,rfl⟩)
     go_wp2_with fail;refine wz (f:=33) (args:=#[.pointer (some w)]) (by simp) (by simp[go_sem]) ?_
     refine(SI _ jeV (hL'.O.up h05) n1 (by omega) []).mono ?_
     rintro e u' w9 ⟨rfl,rfl,EO,uQ⟩;have b0:=EO.cell (j:=0) rfl;have Bj:=(h05).trans (uQ.below (B:=w.heap.size) (λk hk=>by omega) (jw h05))
     have dw:=ah (show KF p s t aT tb (.slice Ab p.dP.length cb) (.slice As p.aW.length cs) w (.returned (.string (eY (refused n1)))) w9 from⟨V,by rw[xK.O,hres],ht'.O.below Bj htl,by rw[xK.O,hres];exact hm'.O.below Bj,Step.of_below Bj⟩)
     clear EO uQ Bj;simp[Leaves,settle,results,results13,go_sem,b0]
     exact dw.O
   |none=>
    have VN:=(aj W3 W3).alloc (ay _) (.cells #[d.eH,d.a,d.b,d.c,d.n,.slice Al d.aH.length cl] 81);have c3:=(hb3.cell (p:=W0) hgr).trans c0;have hg3:=aJ hgr hb3.size;simp only[zq];go_wp2_with fail;clear c3 hDV jl3;generalize W3.alloc (.cells #[d.eH,d.a,d.b,d.c,d.n,.slice Al d.aH.length cl] 81)=Wa at VN ⊢
    have Qu:=fD h03 VN;have h1a:=fD hb3 VN;refine(jpz Wa tb V aT _ p s op xs Ab cb As cs (iJ.below ht'.O Qu htl) (λW hW=>by
     have h0q:=fD Qu hW;exact hP'.O.up (h0q.mono hBw) (aU hBw h0q.size)) (hm'.O.below Qu) hop.O (hSn.O.up h1a h1a.size) (Zz hn'.O) hsz'.O).mono ?_
    rintro e W5 ⟨hb5,hcase⟩;have h05:=fD Qu hb5;have h15:=fD h1a hb5;have hlw:w.heap.size<wl.heap.size:=aJ hlt1 h1l.O.size;have jur:w.heap.size<W5.heap.size:=aJ hlw h15.size;have jeV:=ah (jg9.O.below h15 hlw);clear jg9 hb5 Qu h1a VN h03 hb3 hSn;rcases hcase with⟨hs,rfl⟩|⟨o,c,hs,hc,rfl⟩|⟨o,v',hs,rfl,hSo⟩
    ·have hres:rM p s op r=(s,refused 1):=by unfold rM;rw[hn'.O];simp only[ha,hs]
     clear hn' ha hs;go_wp2_with fail;refine wz (f:=33) (args:=#[.pointer (some w)]) (by simp) (by simp[go_sem]) ?_
     refine(SI _ jeV.O (hL'.O.up h05) 1 (by omega) []).mono ?_
     rintro e u' w9 ⟨rfl,rfl,EO,uQ⟩;have b0:=EO.cell (j:=0) rfl;have Bj:=(h05).trans (uQ.below (B:=w.heap.size) (λk hk=>by omega) (jw h05))
     have dw:=ah (show KF p s t aT tb (.slice Ab p.dP.length cb) (.slice As p.aW.length cs) w (.returned (.string (eY (refused 1)))) w9 from⟨V,by rw[xK.O,hres],ht'.O.below Bj htl,by rw[xK.O,hres];exact hm'.O.below Bj,Step.of_below Bj⟩)
     clear EO uQ Bj;simp[Leaves,settle,results,results13,go_sem,b0]
     exact dw.O
    ·obtain rfl:c=4:=(TT hs).resolve_left hc;have hres:rM p s op r=(s,refused 4):=by unfold rM;rw[hn'.O];simp only[ha,hs];rfl
     clear hn' ha hs hc;go_wp2_with fail;refine wz (f:=33) (args:=#[.pointer (some w)]) (by simp) (by simp[go_sem]) ?_
     refine(SI _ jeV.O (hL'.O.up h05) 4 (by omega) []).mono ?_
     rintro e u' w9 ⟨rfl,rfl,EO,uQ⟩;have b0:=EO.cell (j:=0) rfl;have Bj:=(h05).trans (uQ.below (B:=w.heap.size) (λk hk=>by omega) (jw h05))
     have dw:=ah (show KF p s t aT tb (.slice Ab p.dP.length cb) (.slice As p.aW.length cs) w (.returned (.string (eY (refused 4)))) w9 from⟨V,by rw[xK.O,hres],ht'.O.below Bj htl,by rw[xK.O,hres];exact hm'.O.below Bj,Step.of_below Bj⟩)
     clear EO uQ Bj;simp[Leaves,settle,results,results13,go_sem,b0]
     exact dw.O
    ·have hres:rM p s op r=(s,lJ o):=by unfold rM;rw[hn'.O];simp only[ha,hs];rfl
     obtain⟨hf1,hf2⟩:=TS hsz'.O hs rfl;obtain⟨Ao,co,rfl⟩:=hSo.isSlice;have hao:=ah hSo.at_;have jr4:=ah hf1;clear hn' ha hs hf1 hSo;go_wp2_with fail;go_loopw[13,69] (λv i wr=>∃k:Nat,k<=o.length/\i=.int .i64 (k:Nat)/\Own cStr 1 9 wr W5.heap.size v ((o.take k).map λn=>digits n.toNat)/\Below W5.heap.size W5 wr) (λ_ i _=>o.length - (RowKit.intOf i).toNat)
     case atStart=>exact⟨0,aN _,rfl,Own.nil,aj _ _⟩
     case round=>
      obtain⟨k,hk,rfl,ho,h5r⟩:=hrel;have h0r:=fD h05 h5r;obtain⟨A6,c6,rfl⟩:=ho.isSlice;have hkl:((o.take k).map λn=>digits n.toNat).length=k:=by rw[gX,bC];omega
      rw[hkl]at ho ⊢
      have ho':=ah ho;clear ho;by_cases hlt:k<o.length
      ·have hki:(k:Int)<(o.length:Int):=by omega
       obtain⟨ok1,lA,z0⟩:=(hao.O.up h5r h5r.size).int hlt;obtain⟨m,hm1⟩:∃m,o[k]=m:=⟨_,rfl⟩;have hz:aZ o k=m:=by show o.getD k 0=m;rw[fK,bQ hlt,<- hm1];rfl
       rw[hz]at z0
       obtain⟨f1,f2⟩:=jr4.O m (by rw[<- hm1];exact dh hlt)
       have hsn:=ah (show(o.take (k+1)).map (λn=>digits n.toNat)=(o.take k).map (λn=>digits n.toNat)++[digits m.toNat]by rw[bM hlt,gJ,hm1];rfl)
       clear hm1 hz;go_wp2_with fail;refine(jiW _ (hL'.O.up h0r) m f1 f2).mono ?_
       rintro e w6 ⟨rfl,h6⟩;have h56:=fD h5r h6;have ho6:=ah (ho'.O.below h6);clear ho' h5r h0r z0 h6;go_wp2_with (at_builtin;refine bD ?_)
       unfold Hid;refine jV _ rfl (.tmp 73) (.tmp 76) 77 9 rfl W5.heap.size _ 1 16 underlying77 jaV rfl (by decide) (by decide) _ _ (digits m.toNat) rfl (ho6.O.alloc _) w6 1 rfl rfl (cell_one_new _ _ _) (jaJ _) (by omega) (by simp only[dK];have:=h56.size;omega) ?_
       intro v9 w9 C9 jg Oe AA;have Bj:=ah ((h56.alloc h56.size _).trans AA);have Gs:=ah C9;clear C9 jg Oe AA ho6 h56;go_wp2_with fail;go_roundw
       case rel=>exact⟨k+1,by omega,by go_num,by rw[hsn.O];exact Gs.O,Bj.O⟩
       case measure=>simp[dY];omega
      ·obtain rfl:k=o.length:=by omega
       rw[dR]at ho' hkl
       go_wp2_with fail;refine(jrk wr W5.heap.size _ o ho'.O jr4.O hf2).mono ?_
       rintro e W7 ⟨rfl,h7⟩;have h57:=fD h5r h7;have h07:=fD h05 h57;have Vm:=jeV.O.below h57 jur;have hM7:=ah (hm'.O.below h07);have ht7:=ah (iJ.below ht'.O h07 htl);have Dy:=ah (Step.of_below (ks:=(·=tb)) h07)
       have c7:=Vm.cell (j:=0) rfl;have f7:=Vm.frozen 0;clear ho' h0r h5r h7 h57 h07;go_wp2_with fail;refine wz (f:=33) (args:=#[.pointer (some w)]) (by simp) (by simp[go_sem]) ?_
       refine(jiQ _ _).mono ?_
       rintro e u' w9 ⟨rfl,rfl,AA⟩;obtain⟨Yp,Qq⟩:=Az Vm 0 (.string (eY (lJ o)));have b0:=(Yp.below AA Yp.lt).cell (j:=0) rfl;have ht8:=iJ.grown ht7.O Qq (by intro he;injection he with he;omega)
       have ht9:=ht8.below AA ht8.lt;have hM9:=(zn.Nw hM7.O Qq Vm).below AA;have uQ:=(Step.trans' Dy.O (Step.nG (ks:=(·=w.heap.size)) Qq (λq hq=>by injection hq with hq;exact hq.symm)) (λk hk he=>by omega)).trans (Step.of_below AA)
       have dw:=ah (show KF p s t aT tb (.slice Ab p.dP.length cb) (.slice As p.aW.length cs) w (.returned (.string (eY (lJ o)))) w9 from⟨V,(by rw[xK.O,hres];try rfl),ht9,by rw[xK.O,hres];exact hM9,uQ⟩)
       clear Yp Qq AA ht8 ht9 hM9 uQ;simp[Leaves,settle,results,results13,go_sem,b0]
       exact dw.O
end
end Wh
